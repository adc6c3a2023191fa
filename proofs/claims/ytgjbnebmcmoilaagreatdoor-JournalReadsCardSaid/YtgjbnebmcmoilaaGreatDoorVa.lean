/- Slices of bytes: read, and made. Numbers as bytes. slices.Grow of nothing, slices.Concat and slices.Clone of bytes. The writer. The writer's methods. Check sums of bytes, after any check sum. -/
import Derived.Test.YtgjbnebmcmoilaaGreatDoorSh
import Derived.Test.YtgjbnebmcmoilaaGreatDoorVi
import Derived.Deep.MidRow
import Derived.Deep.LoopGhost
import Derived.Deep.AppendLies
import Derived.Deep.RegionHeld3
import Derived.Deep.RegionLaw
import Derived.Deep.RegionWith
import Derived.Deep.QuietTactic
import Derived.WalkSpells
import Derived.WalkLawsBesides
import Derived.BigQuiet
import Derived.OwnWalk
import Derived.Carry
import Derived.Lib.Hide
import Derived.Lib.Strings
import Derived.Laws.ResultCell
import Derived.Laws.MakeOwn
import Derived.Lib.AppendZerosOnto
import Derived.Laws.IdiomStrings
import Derived.Test.YtgjbnebmcmoilaaGreatDoorCr
namespace Go.Proofs.YtgjbnebmcmoilaaGreatDoor
set_option linter.unusedVariables false
set_option linter.unusedSimpArgs false
open Go.RowKit Go.MapKept
abbrev Bs := List UInt8
def byteV (b : UInt8) : Value := .int .u8 (b.toNat : Int)
abbrev OwnB (w : World) (B : Nat) (v : Value) (l : Bs) : Prop := w.ownsRow B 5 1 v l.length (l.map byteV)
theorem info_byte : (Tryz.prog.info? 5).map (fun i => (i.zero, i.size, i.bytes)) = some (some (.int .u8 0), 1, 1) := by kernel_rfl
/-- Slice value v holds the elements l; element x is laid as 'cells x', sz cells. -/
def SlAt {α : Type} (sz : Nat) (cells : α → List Value) (w : World) (v : Value) (l : List α) : Prop :=
  ∃ A cap, v = .slice A l.length cap ∧ l.length ≤ cap ∧ cap ≤ 9223372036854775807 ∧
    (0 < l.length → ∃ b off, A = some ⟨b, off, none⟩ ∧ ∀ i (h : i < l.length) j u, (cells l[i])[j]? = some u → w.cell? ⟨b, off + i * sz + j, none⟩ = some u)

section
variable {α : Type} {sz : Nat} {cells : α → List Value} {w w' : World} {v : Value} {l : List α}

theorem SlAt.below (h : SlAt sz cells w v l) (hb : Below w.heap.size w w') : SlAt sz cells w' v l := by
  obtain ⟨A, cap, e, hl, hm, hc⟩ := h
  refine ⟨A, cap, e, hl, hm, fun h0 => ?_⟩
  obtain ⟨b, off, e, h1⟩ := hc h0
  exact ⟨b, off, e, fun i hi j u hu => cell_below hb (h1 i hi j u hu)⟩

/-- Kept where the cells that were there are kept. -/
theorem SlAt.keep (h : SlAt sz cells w v l) (hk : ∀ a u, w.cell? a = some u → w'.cell? a = some u) : SlAt sz cells w' v l := by
  obtain ⟨A, cap, e, hl, hm, hc⟩ := h
  refine ⟨A, cap, e, hl, hm, fun h0 => ?_⟩
  obtain ⟨b, off, e, h1⟩ := hc h0
  exact ⟨b, off, e, fun i hi j u hu => hk _ _ (h1 i hi j u hu)⟩

theorem SlAt.nil (cap : Nat) (A : Option Addr) (hc : cap ≤ 9223372036854775807) : SlAt sz cells w (.slice A 0 cap) ([] : List α) :=
  ⟨A, cap, rfl, Nat.zero_le _, hc, fun h => absurd h (by simp)⟩

theorem SlAt.elem {A : Option Addr} {n cap : Nat} (h : SlAt sz cells w (.slice A n cap) l) {k : Nat} (hk : k < l.length) :
    ∃ b off, A = some ⟨b, off, none⟩ ∧ ∀ j u, (cells l[k])[j]? = some u → w.cell? ⟨b, off + k * sz + j, none⟩ = some u := by
  obtain ⟨A', cap', e, hl, hm, hc⟩ := h
  injection e with e1 e2 e3
  subst e1; subst e2; subst e3
  obtain ⟨b, off, e, h1⟩ := hc (by omega)
  exact ⟨b, off, e, fun j u hu => h1 k hk j u hu⟩

theorem SlAt.take {A : Option Addr} {n cap : Nat} (h : SlAt sz cells w (.slice A n cap) l) {k : Nat} (hk : k ≤ n) : SlAt sz cells w (.slice A k cap) (l.take k) := by
  obtain ⟨A', cap', e, hl, hm, hc⟩ := h
  injection e with e1 e2 e3
  subst e1; subst e2; subst e3
  have hlen : (l.take k).length = k := by simp; omega
  refine ⟨A, cap, by rw [hlen], by rw [hlen]; omega, hm, fun h0 => ?_⟩
  rw [hlen] at h0
  obtain ⟨b, off, e, h1⟩ := hc (by omega)
  refine ⟨b, off, e, fun i hi j u hu => h1 i (by rw [hlen] at hi; omega) j u ?_⟩
  rw [List.getElem_take] at hu
  exact hu
end

theorem flatMap_at {α : Type} (cells : α → List Value) (sz : Nat) (hsz : ∀ x, (cells x).length = sz) : ∀ (l : List α) (i : Nat) (h : i < l.length) (j : Nat), j < sz → (l.flatMap cells)[i * sz + j]? = (cells l[i])[j]?
  | [], i, h, _, _ => by simp at h
  | x :: r, 0, _, j, hj => by
    rw [List.flatMap_cons, List.getElem?_append_left (by rw [hsz]; omega)]
    simp
  | x :: r, i + 1, h, j, hj => by
    have := flatMap_at cells sz hsz r i (by simpa using h) j hj
    rw [List.flatMap_cons, List.getElem?_append_right (by rw [hsz, Nat.add_mul]; omega), hsz]
    have e : (i + 1) * sz + j - sz = i * sz + j := by rw [Nat.add_mul]; omega
    rw [e, this]
    simp

theorem slAt_of_own {α : Type} {cells : α → List Value} {w : World} {B e sz : Nat} {v : Value} {l : List α} (hsz : ∀ x, (cells x).length = sz) (h : w.ownsRow B e sz v l.length (l.flatMap cells)) : SlAt sz cells w v l := by
  rcases h.2 with ⟨rfl, h0⟩ | ⟨g, cap, cur, rfl, _, hb, hc, hm, hs, ht⟩
  · have : l = [] := List.eq_nil_of_length_eq_zero h0
    subst this
    exact SlAt.nil 0 none (by omega)
  · refine ⟨_, cap, rfl, hc, by simpa [maxLen] using hm, fun h0 => ⟨g, 0, rfl, fun i hi j u hu => ?_⟩⟩
    have hj : j < sz := by
      have := (List.getElem?_eq_some_iff.1 hu).1
      rw [hsz] at this
      exact this
    have h1 := flatMap_at cells sz hsz l i hi j hj
    rw [hu, ← ht] at h1
    have h2 : i * sz + j < l.length * sz := by
      have : (i + 1) * sz ≤ l.length * sz := Nat.mul_le_mul_right _ hi
      rw [Nat.add_mul] at this
      omega
    rw [List.getElem?_take_of_lt h2, Array.getElem?_toList] at h1
    simp only [World.cell?, hb, Nat.zero_add]
    simpa using h1
theorem nown_keep {w w' : World} {B e sz n : Nat} {v : Value} {xs : List Value} (h : w.ownsRow B e sz v n xs) (hk : ∀ g, v.ownBlock = some g → w'.heap[g]? = w.heap[g]?) : w'.ownsRow B e sz v n xs := by
  refine ⟨h.1, ?_⟩
  rcases h.2 with h0 | ⟨g, cap, cur, rfl, hg, hb, r⟩
  · exact .inl h0
  · exact .inr ⟨g, cap, cur, rfl, hg, (hk g rfl).trans hb, r⟩
theorem nown_block {w : World} {B e sz n : Nat} {v : Value} {xs : List Value} (h : w.ownsRow B e sz v n xs) {g : Nat} (hg : v.ownBlock = some g) : B ≤ g ∧ g < w.heap.size := by
  rcases h.2 with ⟨rfl, _⟩ | ⟨g', cap, cur, rfl, hg', hb, r⟩
  · cases hg
  · have : g' = g := by simpa [Value.ownBlock] using hg
    subst this
    exact ⟨hg', (Array.getElem?_eq_some_iff.1 hb).1⟩
theorem nown_below {w w' : World} {B e sz n : Nat} {v : Value} {xs : List Value} (h : w.ownsRow B e sz v n xs) (hb : Below w.heap.size w w') : w'.ownsRow B e sz v n xs :=
  nown_keep h fun g hg => hb.block g (nown_block h hg).2
theorem nown_new (W : World) (c : Array Value) (e sz n B : Nat) (hc : c.toList.length = n * sz) (hn : n ≤ 1000) (hB : B ≤ W.heap.size) :
    (W.alloc (.cells c e)).ownsRow B e sz (.slice (some ⟨W.heap.size, 0, none⟩) n n) n c.toList := by
  refine ⟨hc, .inr ⟨W.heap.size, n, c, rfl, hB, heap_alloc_new W _, Nat.le_refl _, by unfold maxLen; omega, by simpa using hc, ?_⟩⟩
  rw [← hc, List.take_length]
theorem nown_none (w : World) (B e sz : Nat) : w.ownsRow B e sz (.slice none 0 0) 0 [] := ⟨by simp, .inl ⟨rfl, rfl⟩⟩
theorem nown_grown {w w1 w6 : World} {B e sz n : Nat} {v : Value} {xs : List Value} (h : w1.ownsRow B e sz v n xs) (hb : Below B w w1) (hB : B ≤ w1.heap.size) (hg : w1.grownBy w6 v.ownBlock) : Below B w w6 :=
  hb.grown hg hB fun k hk => (nown_block h hk).1
theorem nown_cell {w : World} {B e n : Nat} {v : Value} {xs : List Value} (h : w.ownsRow B e 1 v n xs) (hn : 0 < n) : ∃ g cap, v = .slice (some ⟨g, 0, none⟩) n cap ∧ n ≤ cap ∧ g < w.heap.size ∧ ∀ j u, xs[j]? = some u → w.cell? ⟨g, j, none⟩ = some u := by
  rcases h.2 with ⟨_, h0⟩ | ⟨g, cap, cur, hv, hb, hg, hc, hm, hs, ht⟩
  · omega
  · refine ⟨g, cap, hv, hc, (Array.getElem?_eq_some_iff.1 hg).1, fun j u hu => ?_⟩
    unfold World.cell?
    dsimp only
    rw [hg]
    have hj : j < xs.length := (List.getElem?_eq_some_iff.1 hu).1
    rw [← ht, List.getElem?_take] at hu
    split at hu
    · rw [Array.getElem?_toList] at hu
      simpa using hu
    · cases hu

/-- Bytes are laid behind a slice of bytes. -/
theorem append_bytes {W : World} {B : Nat} {v : Value} {l : Bs} (hown : OwnB W B v l) (p m c : Nat) (news : Bs) (hm : news.length = m) (h0 : 0 < m) (hn : ∀ j x, news[j]? = some x → W.cell? ⟨p, j, none⟩ = some (byteV x))
    (hlen : l.length + m ≤ 10000000) (hB : B ≤ W.heap.size) :
    ∃ g cap w', (∀ ty, (Builtin.append_ #[31, 31] ty #[v, .slice (some ⟨p, 0, none⟩) m c]).run Tryz.prog W = .ok (.slice (some ⟨g, 0, none⟩) (l.length + m) cap) w') ∧ OwnB w' B (.slice (some ⟨g, 0, none⟩) (l.length + m) cap) (l ++ news) ∧ W.grownBy w' v.ownBlock ∧ (v.ownBlock = some g ∨ g = W.heap.size) ∧ g < w'.heap.size := by
  obtain ⟨ii, hi0, hi1, hi2, hi3⟩ := info_parts info_byte
  obtain ⟨g, cap, w', hr, h2, h3, h4, h5⟩ := run_append_lies (P := Tryz.prog) (w := W) 31 0 B 5 ii _ 1 1 (by kernel_rfl) hi0 hi1 hi2 hi3 rfl (by omega) v l.length (l.map byteV) hown ⟨p, 0, none⟩ m c (news.map byteV) (by simp [hm])
    (fun j u hu => by
      rw [List.getElem?_map] at hu
      cases hx : news[j]? with
      | none => rw [hx] at hu; cases hu
      | some x =>
        rw [hx] at hu
        obtain rfl : byteV x = u := by simpa using hu
        have hadd : (⟨p, 0, none⟩ : Addr).add j = ⟨p, j, none⟩ := by unfold Addr.add; split <;> simp_all
        rw [hadd]
        exact hn j x hx)
    (fun u hu => by
      obtain ⟨x, _, rfl⟩ := List.mem_map.1 hu
      rfl) h0 (by unfold maxLen; omega) (by omega) hB _ rfl
  refine ⟨g, cap, w', fun ty => hr, ?_, h3, h4, h5⟩
  have e : (l ++ news).length = l.length + m := by rw [List.length_append, hm]
  unfold OwnB
  rw [e, List.map_append]
  exact h2
theorem news_new (W : World) (news : Bs) (e : Nat) : ∀ j x, news[j]? = some x → (W.alloc (.cells (news.map byteV).toArray e)).cell? ⟨W.heap.size, j, none⟩ = some (byteV x) := by
  intro j x hx
  rw [World.cell?_alloc_new]
  simp [hx]
/-- A slice of bytes as a string. -/
theorem back_bytes {W : World} {B : Nat} {v : Value} {l : Bs} (hown : OwnB W B v l) : (convert 31 9 v).run Tryz.prog W = .ok (.string ⟨l.toArray⟩) W := by
  by_cases h0 : 0 < l.length
  · obtain ⟨g, cap, rfl, _, _, hc⟩ := nown_cell hown h0
    refine run_convert_bytes_back W 31 9 5 ⟨g, 0, none⟩ cap l (by kernel_rfl) (by kernel_rfl) (by kernel_rfl) fun j hj => ?_
    have hadd : (⟨g, 0, none⟩ : Addr).add j = ⟨g, j, none⟩ := by unfold Addr.add; split <;> simp_all
    rw [hadd]
    exact hc j _ (by simp [List.getElem?_eq_getElem hj, byteV])
  · obtain rfl : l = [] := List.eq_nil_of_length_eq_zero (by omega)
    rcases hown.2 with ⟨rfl, _⟩ | ⟨g, cap, cur, rfl, _⟩
    · exact run_convert_bytes_nil W 31 5 (by kernel_rfl) (by kernel_rfl) 0 0 9 (by kernel_rfl)
    · refine run_convert_bytes_back W 31 9 5 ⟨g, 0, none⟩ cap [] (by kernel_rfl) (by kernel_rfl) (by kernel_rfl) fun j hj => ?_
      exact absurd hj (by simp)
/-- An append whose run is known: at the list of a plain region's operations. -/
theorem wpList_append_eq {P : Program} {w w' : World} {v vx r : Value} {t : TypeId} {ops : Array Oper} {rest : List Oper} {o : Oper} {a : Act} {Q : Exit → Act → World → Prop} (hr : ∀ ty, (Builtin.append_ #[t, t] ty #[v, vx]).run P w = .ok r w')
    (hgd : o.guard = none) (s x : Operand) (ho : o.op = .call { callee := .builtin .append, args := #[s, x], argTypes := #[t, t] }) (hs : a.eval s = v) (hx : a.eval x = vx)
    (h : wpList P ops Q rest (a.put o.dst r) w') : wpList P ops Q (o :: rest) a w := by
  refine wpList_plain hgd fun K hK => ?_
  unfold Oper.wp execOp
  simp only [ho, resolve, invoke, builtin, Sem.run_bind, Sem.run_pure, Result.andThen_ok, List.map_toArray, List.map_cons, List.map_nil, hs, hx, hr]
  exact hK _ _ h
/-- At a step of a region that draws its order. -/
theorem step_append_eq {P : Program} {w w' : World} {v vx r : Value} {t : TypeId} {ops : Array Oper} {o : Oper} {a : Act} {K : Act → World → Prop} {Q : Exit → Act → World → Prop} {E : Prop} (hr : ∀ ty, (Builtin.append_ #[t, t] ty #[v, vx]).run P w = .ok r w')
    (hgd : o.guard = none) (s x : Operand) (ho : o.op = .call { callee := .builtin .append, args := #[s, x], argTypes := #[t, t] }) (hs : a.eval s = v) (hx : a.eval x = vx)
    (h : K (a.put o.dst r) w') : if Region.wanted o (yielded ops a.tmps) = true then Oper.wp P o a w K Q else E := by
  have hw : Region.wanted o (yielded ops a.tmps) = true := by simp [Region.wanted, hgd]
  rw [if_pos hw]
  unfold Oper.wp execOp
  simp only [ho, resolve, invoke, builtin, Sem.run_bind, Sem.run_pure, Result.andThen_ok, List.map_toArray, List.map_cons, List.map_nil, hs, hx, hr]
  exact h
/-- A slice of bytes, read. -/
def byteCells (x : UInt8) : List Value := [byteV x]
abbrev BAt (w : World) (v : Value) (l : Bs) : Prop := SlAt 1 byteCells w v l
theorem map_flat (l : Bs) : l.map byteV = l.flatMap byteCells := by
  induction l with
  | nil => rfl
  | cons a r ih => rw [List.map_cons, List.flatMap_cons, ih]; rfl
theorem OwnB.sl {w : World} {B : Nat} {v : Value} {l : Bs} (h : OwnB w B v l) : BAt w v l := slAt_of_own (fun _ => rfl) (by rw [← map_flat]; exact h)
theorem OwnB.below {w w' : World} {B : Nat} {v : Value} {l : Bs} (h : OwnB w B v l) (hb : Below w.heap.size w w') : OwnB w' B v l := nown_below h hb
theorem BAt.cells {w : World} {g off n c : Nat} {l : Bs} (h : BAt w (.slice (some ⟨g, off, none⟩) n c) l) (j : Nat) (hj : j < l.length) : w.cell? ⟨g, off + j, none⟩ = some (byteV l[j]) := by
  obtain ⟨b, o, e, h1⟩ := h.elem hj
  injection e with e; injection e with e1 e2
  subst e1; subst e2
  have := h1 0 (byteV l[j]) rfl
  simpa using this
/-- bytes of a slice laid behind one that is owned -/
theorem append_sl {W : World} {B : Nat} {v x : Value} {l news : Bs} (hown : OwnB W B v l) (hx : BAt W x news) (h0 : 0 < news.length) (hlen : l.length + news.length ≤ 10000000) (hB : B ≤ W.heap.size) :
    ∃ g cap w', (∀ ty, (Builtin.append_ #[31, 31] ty #[v, x]).run Tryz.prog W = .ok (.slice (some ⟨g, 0, none⟩) (l.length + news.length) cap) w') ∧ OwnB w' B (.slice (some ⟨g, 0, none⟩) (l.length + news.length) cap) (l ++ news) ∧ W.grownBy w' v.ownBlock ∧ (v.ownBlock = some g ∨ g = W.heap.size) ∧ g < w'.heap.size := by
  obtain ⟨A, c, rfl, hc1, hc2, hh⟩ := hx
  obtain ⟨b, off, rfl, hcell⟩ := hh h0
  obtain ⟨ii, hi0, hi1, hi2, hi3⟩ := info_parts info_byte
  obtain ⟨g, cap, w', hr, h2, h3, h4, h5⟩ := run_append_lies (P := Tryz.prog) (w := W) 31 0 B 5 ii _ 1 1 (by kernel_rfl) hi0 hi1 hi2 hi3 rfl (by omega) v l.length (l.map byteV) hown ⟨b, off, none⟩ news.length c (news.map byteV) (by simp)
    (fun j u hu => by
      rw [List.getElem?_map] at hu
      cases hx : news[j]? with
      | none => rw [hx] at hu; cases hu
      | some x =>
        rw [hx] at hu
        obtain rfl : byteV x = u := by simpa using hu
        have hadd : (⟨b, off, none⟩ : Addr).add j = ⟨b, off + j, none⟩ := by unfold Addr.add; split <;> simp_all
        rw [hadd]
        obtain ⟨hj, hx2⟩ := List.getElem?_eq_some_iff.1 hx
        have := hcell j hj 0 (byteV x) (by rw [hx2]; rfl)
        simpa using this)
    (fun u hu => by
      obtain ⟨x, _, rfl⟩ := List.mem_map.1 hu
      rfl) h0 (by unfold maxLen; omega) (by omega) hB _ rfl
  refine ⟨g, cap, w', fun ty => hr, ?_, h3, h4, h5⟩
  unfold OwnB
  rw [List.length_append, List.map_append]
  exact h2
end Go.Proofs.YtgjbnebmcmoilaaGreatDoor
namespace Go.Proofs.YtgjbnebmcmoilaaGreatDoor
set_option linter.unusedVariables false
set_option linter.unusedSimpArgs false
open Go.RowKit Go.MapKept
/-- A number's bytes, groups of seven bits, the least first (f: how many groups more at most). -/
def numF : Nat → Nat → Bs
  | 0, n => [UInt8.ofNat n]
  | f + 1, n => if n < 128 then [UInt8.ofNat n] else UInt8.ofNat (n % 128 + 128) :: numF f (n / 128)
def numB (n : Nat) : Bs := numF 9 n
theorem or128 : ∀ m : Fin 256, bits BinOp.or IntKind.u8 ((m.val : Int)) 128 = ((m.val % 128 + 128 : Nat) : Int) := by decide +kernel
theorem or_more (n : Nat) : bits BinOp.or IntKind.u8 ((n : Int) % 256) 128 = ((UInt8.ofNat (n % 128 + 128)).toNat : Int) := by
  have h := or128 ⟨n % 256, Nat.mod_lt _ (by omega)⟩
  have e1 : (n : Int) % 256 = ((n % 256 : Nat) : Int) := by omega
  rw [e1, h]
  have e2 : (UInt8.ofNat (n % 128 + 128)).toNat = n % 128 + 128 := by
    rw [UInt8.toNat_ofNat']
    omega
  rw [e2]
  show ((n % 256 % 128 + 128 : Nat) : Int) = _
  congr 1
  omega
/-- one byte behind bytes that are owned -/
theorem push_byte {W : World} {B : Nat} {v : Value} {l : Bs} (b : UInt8) (ho : OwnB W B v l) (hlen : l.length + 1 ≤ 10000000) (hB : B ≤ W.heap.size) :
    ∃ g cap w', (∀ ty, (Builtin.append_ #[31, 31] ty #[v, .slice (some ⟨W.heap.size, 0, none⟩) 1 1]).run Tryz.prog (W.alloc (.cells #[.int .u8 (b.toNat : Int)] 5)) = .ok (.slice (some ⟨g, 0, none⟩) (l.length + 1) cap) w') ∧ OwnB w' B (.slice (some ⟨g, 0, none⟩) (l.length + 1) cap) (l ++ [b]) ∧ (∀ a, Below B a W → Below B a w') := by
  obtain ⟨g, cap, w', h1, h2, h3, h4, h5⟩ := append_bytes (W := W.alloc (.cells #[.int .u8 (b.toNat : Int)] 5)) (nown_below ho (below_alloc _ _)) W.heap.size 1 1 [b] rfl (by omega) (fun j x hx => news_new W [b] _ j x hx) (by omega) (by show B ≤ (W.heap.push _).size; rw [Array.size_push]; omega)
  exact ⟨g, cap, w', h1, h2, fun a hb => nown_grown (nown_below ho (below_alloc _ _)) (hb.alloc hB _) (by show B ≤ (W.heap.push _).size; rw [Array.size_push]; omega) h3⟩
theorem numF_small (f n : Nat) (h : n < 128) : numF f n = [UInt8.ofNat n] := by
  cases f with
  | zero => rfl
  | succ f => unfold numF; rw [if_pos h]
theorem numF_big (f n : Nat) (h : 128 ≤ n) : numF (f + 1) n = UInt8.ofNat (n % 128 + 128) :: numF f (n / 128) := by
  conv => lhs; unfold numF
  rw [if_neg (by omega)]
theorem numF_len : ∀ (f n : Nat), (numF f n).length ≤ f + 1
  | 0, n => Nat.le_refl _
  | f + 1, n => by
    unfold numF
    split
    · simp
    · have := numF_len f (n / 128)
      simp; omega
set_option maxRecDepth 100000 in
set_option maxHeartbeats 1000000 in
theorem number_any (w : World) (n0 : Nat) (hn : n0 < 18446744073709551616) : Calls Tryz.prog 53 #[.int .u64 (n0 : Int)] w fun e w' => (∃ v, e = .returned v ∧ OwnB w' w.heap.size v (numB n0)) ∧ Below w.heap.size w w' := by
  have HN := Lib.hid hn
  clear hn
  go_enter Tryz.func53, Tryz.ntmps53
  go_wp2_with fail
  go_loopg [0, 3] 9 (fun gf u0 u3 wx => ∃ (n : Nat) (l : Bs), u0 = .int .u64 (n : Int) ∧ n < 2 * 128 ^ gf ∧ n < 18446744073709551616 ∧ OwnB wx w.heap.size u3 l ∧ numB n0 = l ++ numF gf n ∧ Below w.heap.size w wx)
  case atStart => exact ⟨n0, [], rfl, by have := HN.out; omega, HN.out, nown_none _ _ _ _, rfl, Below.refl _ _⟩
  case round =>
    obtain ⟨n, l, rfl, hf, h64, ho, hl, hb⟩ := hrel
    have HO := Lib.hid ho
    have HL := Lib.hid hl
    have HB := Lib.hid hb
    clear ho hl hb
    have hll : l.length ≤ 10 := by
      have h1 : (numB n0).length ≤ 10 := numF_len 9 n0
      rw [HL.out, List.length_append] at h1
      omega
    by_cases hlt : 128 ≤ n
    · have d1 : decide ((128 : Int) ≤ (n : Int)) = true := decide_eq_true (by omega)
      obtain ⟨b, hbb⟩ : ∃ b, b = UInt8.ofNat (n % 128 + 128) := ⟨_, rfl⟩
      have hor := or_more n
      rw [← hbb] at hor
      have HBB := Lib.hid hbb
      clear hbb
      obtain ⟨gg, cap, w6, hr, ho6, hb6⟩ := push_byte b HO.out (by omega) HB.out.size
      have HO6 := Lib.hid ho6
      have HB6 := Lib.hid (hb6 w HB.out)
      have HR := Lib.hid hr
      clear ho6 hb6 hr
      obtain ⟨g', rfl⟩ : ∃ g', gk = g' + 1 := ⟨gk - 1, by
        have : gk ≠ 0 := fun e => by subst e; simp at hf; omega
        omega⟩
      go_wp2_with (first | (at_builtin; refine wpList_append_eq HR.out rfl (.tmp 8) (.tmp 12) rfl rfl rfl ?_))
      go_roundg g'
      case measure => omega
      case rel => exact ⟨n / 128, l ++ [b], by first | rfl | go_num, by rw [Nat.pow_succ] at hf; omega, by omega, by simpa using HO6.out, by rw [HL.out, numF_big _ _ hlt, HBB.out]; simp, HB6.out⟩
    · have d1 : decide ((128 : Int) ≤ (n : Int)) = false := decide_eq_false (by omega)
      obtain ⟨b, hbb⟩ : ∃ b, b = UInt8.ofNat n := ⟨_, rfl⟩
      have hor : (b.toNat : Int) = (n : Int) := by
        rw [hbb, UInt8.toNat_ofNat']
        omega
      have HBB := Lib.hid hbb
      clear hbb
      obtain ⟨gg, cap, w6, hr, ho6, hb6⟩ := push_byte b HO.out (by omega) HB.out.size
      rw [hor] at hr
      clear hor
      have HO6 := Lib.hid ho6
      have HB6 := Lib.hid (hb6 w HB.out)
      have HR := Lib.hid hr
      clear ho6 hb6 hr
      go_wp2_with (first | (at_builtin; refine wpList_append_eq HR.out rfl (.tmp 14) (.tmp 17) rfl rfl rfl ?_))
      go_ret
      refine ⟨⟨_, rfl, ?_⟩, HB6.out⟩
      rw [HL.out, numF_small _ _ (by omega), ← HBB.out]
      simpa using HO6.out
end Go.Proofs.YtgjbnebmcmoilaaGreatDoor
namespace Go.Proofs.YtgjbnebmcmoilaaGreatDoor
set_option linter.unusedVariables false
set_option linter.unusedSimpArgs false
open Go.RowKit Go.MapKept
theorem grown_new (w : World) (n c : Nat) (hc : n ≤ c) (hm : c ≤ maxLen) : OwnB ((w.drew.alloc (.cells ((#[] : Array Value) ++ Builtin.zeroCells (Value.int .u8 0).cells n ++ Builtin.zeroCells (Value.int .u8 0).cells (c - n)) 5))) w.heap.size (.slice (some ⟨w.heap.size, 0, none⟩) 0 c) [] := by
  refine ⟨rfl, .inr ⟨w.heap.size, c, _, rfl, Nat.le_refl _, heap_alloc_new w.drew _, Nat.zero_le _, hm, ?_, by simp⟩⟩
  have h1 : ∀ k, (Builtin.zeroCells (Value.int .u8 0).cells k).size = k := fun k => by
    simp [Builtin.zeroCells, Value.cells]
  rw [Array.size_append, Array.size_append, h1, h1]
  simp
  omega
set_option maxRecDepth 100000 in
set_option maxHeartbeats 1000000 in
theorem grow_nil (w : World) (n : Nat) (hn : n ≤ 10000000) : Calls Tryz.prog 133 #[.slice none 0 0, .int .i64 (n : Int)] w fun e w' => (∃ v, e = .returned v ∧ OwnB w' w.heap.size v []) ∧ Below w.heap.size w w' := by
  by_cases h0 : 0 < n
  · obtain ⟨ii, hi0, hi1, hi2, hi3⟩ := info_parts info_byte
    have hGn : n ≤ grownCap w n 0 5 := grownCap_ge w _ _ _
    have hG63 := grownCap_le_maxLen w n 0 5 (by unfold maxLen; omega)
    have hfit : Builtin.nextslicecap n 0 * ii.bytes ≤ 281474976710656 := by
      exact growslice_fits (need := n) (old := 0) (bytes := ii.bytes) h0 (by rw [hi3]; omega)
    have hrz : ∀ ty, (Builtin.append_ #[31, 3] ty #[.slice none 0 0, .int .i64 (n : Int)]).run Tryz.prog w = .ok (.slice (some ⟨w.heap.size, 0, none⟩) n (grownCap w n 0 5)) (w.drew.alloc (.cells ((#[] : Array Value) ++ Builtin.zeroCells (Value.int .u8 0).cells n ++ Builtin.zeroCells (Value.int .u8 0).cells (grownCap w n 0 5 - n)) 5)) := fun ty => by
      have h := Lib.run_append_grow_zeros (P := Tryz.prog) w 31 3 ty 5 ii _ .i64 .i64 (by kernel_rfl) (by kernel_rfl) hi0 hi1 none 0 0 [] (by rw [hi2]; exact run_firstCells_none w.drew 1 0 0 0) n h0 (by omega) (by omega) (by omega) (by rw [hi3]; omega) (by simpa using hfit)
      simpa using h
    have HO := Lib.hid (grown_new w n _ hGn hG63)
    have hb : Below w.heap.size w (w.drew.alloc (.cells ((#[] : Array Value) ++ Builtin.zeroCells (Value.int .u8 0).cells n ++ Builtin.zeroCells (Value.int .u8 0).cells (grownCap w n 0 5 - n)) 5)) := nbl_step (Below.refl _ w).drew (below_alloc _ _)
    have HB := Lib.hid hb
    have d1 : decide ((n : Int) < 0) = false := decide_eq_false (by omega)
    have d2 : decide (0 < (n : Int)) = true := decide_eq_true (by omega)
    have HR := Lib.hid hrz
    have HG := Lib.hid hGn
    generalize (w.drew.alloc (.cells ((#[] : Array Value) ++ Builtin.zeroCells (Value.int .u8 0).cells n ++ Builtin.zeroCells (Value.int .u8 0).cells (grownCap w n 0 5 - n)) 5)) = w2 at *
    generalize grownCap w n 0 5 = G at *
    clear hrz hb hfit hi0 hi1 hi2 hi3
    go_enter Tryz.func133, Tryz.ntmps133
    go_wp2_with (first | (at_builtin; refine Lib.wpList_append_run _ rfl _ _ _ _ rfl _ _ rfl rfl _ _ (HR.out _) ?_))
    go_ret
    exact ⟨⟨_, rfl, HO.out⟩, HB.out⟩
  · obtain rfl : n = 0 := by omega
    go_enter Tryz.func133, Tryz.ntmps133
    go_wp2_with fail
    go_ret
    exact ⟨⟨_, rfl, nown_none _ _ _ _⟩, Below.refl _ _⟩
theorem run_append_empty {P : Program} (w : World) (base : Nat) (t ty e : TypeId) (i : TypeInfo) (size : Nat) (ht : P.underlying t = some (.slice e)) (hi : P.info? e = some i)
    (v : Value) (n : Nat) (xs : List Value) (hown : w.ownsRow base e size v n xs) (A : Option Addr) (c : Nat) :
    (Builtin.append_ #[t, t] ty #[v, .slice A 0 c]).run P w = .ok v w := by
  rcases hown.2 with ⟨rfl, rfl⟩ | ⟨g, cap, cur, rfl, _, _, hnc, _⟩
  · cases A <;> simp [Builtin.append_, run_underlying ht, sizeOf, typeInfo, hi, Builtin.lenOf, Builtin.firstCells, loadCells, loadCellsFrom]
  · cases A <;> simp [Builtin.append_, run_underlying ht, sizeOf, typeInfo, hi, Builtin.lenOf, Builtin.firstCells, hnc, storeCells, loadCells, loadCellsFrom]
/-- An append of bytes to bytes that are owned: whatever it lays. -/
theorem app_any {w W : World} {v : Value} {A : Option Addr} {n c : Nat} {l news : Bs} (ho : OwnB W w.heap.size v l) (hx : BAt W (.slice A n c) news) (hlen : l.length + news.length ≤ 10000000) (hb : Below w.heap.size w W) :
    ∃ v' w', (∀ ty, (Builtin.append_ #[31, 31] ty #[v, .slice A n c]).run Tryz.prog W = .ok v' w') ∧ OwnB w' w.heap.size v' (l ++ news) ∧ Below w.heap.size w w' := by
  by_cases h0 : 0 < news.length
  · obtain ⟨g, cap, w', h1, h2, h3, h4, h5⟩ := append_sl ho hx h0 hlen hb.size
    have h1' : ∀ ty, (Builtin.append_ #[31, 31] ty #[v, .slice A n c]).run Tryz.prog W = .ok (.slice (some ⟨g, 0, none⟩) (l ++ news).length cap) w' := by rw [List.length_append]; exact h1
    exact ⟨_, w', h1', by rw [List.length_append]; exact h2, nown_grown ho hb hb.size h3⟩
  · obtain rfl : news = [] := List.eq_nil_of_length_eq_zero (by omega)
    obtain ⟨A', c', e, _⟩ := hx
    injection e with e1 e2 e3
    have hn : n = 0 := by simpa using e2
    subst hn
    obtain ⟨ii, hi0, hi1, hi2, hi3⟩ := info_parts info_byte
    exact ⟨v, W, fun ty => run_append_empty (P := Tryz.prog) W w.heap.size 31 ty 5 ii 1 (by kernel_rfl) hi0 v l.length (l.map byteV) ho A c, by rw [List.append_nil]; exact ho, hb⟩
/-- Parts that are slices of bytes. -/
def partCells (x : Value × Bs) : List Value := [x.1]
structure PAt (w : World) (v : Value) (xs : List (Value × Bs)) : Prop where
  sl : SlAt 1 partCells w v xs
  ps : ∀ x ∈ xs, BAt w x.1 x.2
theorem PAt.below {w w' : World} {v : Value} {xs : List (Value × Bs)} (h : PAt w v xs) (hb : Below w.heap.size w w') : PAt w' v xs := ⟨h.sl.below hb, fun x hx => (h.ps x hx).below hb⟩
def joinB (xs : List (Value × Bs)) : Bs := xs.flatMap (·.2)
theorem take_snoc {α : Type} : ∀ (xs : List α) (k : Nat) (hk : k < xs.length), xs.take (k + 1) = xs.take k ++ [xs[k]]
  | [], k, hk => absurd hk (Nat.not_lt_zero k)
  | x :: r, 0, _ => rfl
  | x :: r, k + 1, hk => by
    have := take_snoc r k (by simpa using hk)
    rw [List.take_succ_cons, this]
    rfl
theorem joinB_take (xs : List (Value × Bs)) (k : Nat) (hk : k < xs.length) : joinB (xs.take (k + 1)) = joinB (xs.take k) ++ xs[k].2 := by
  unfold joinB
  rw [take_snoc xs k hk, List.flatMap_append]
  simp
theorem joinB_len (xs : List (Value × Bs)) (k : Nat) : (joinB (xs.take k)).length ≤ (joinB xs).length := by
  unfold joinB
  conv => rhs; rw [← List.take_append_drop k xs]
  rw [List.flatMap_append, List.length_append]
  omega
theorem PAt.at {w : World} {A : Option Addr} {n c : Nat} {xs : List (Value × Bs)} (h : PAt w (.slice A n c) xs) {k : Nat} (hk : k < xs.length) : ∃ b off A' c', A = some ⟨b, off, none⟩ ∧ w.cell? ⟨b, off + k, none⟩ = some (.slice A' xs[k].2.length c') ∧ BAt w (.slice A' xs[k].2.length c') xs[k].2 := by
  obtain ⟨b, off, e, h1⟩ := h.sl.elem hk
  have hp := h.ps xs[k] (List.getElem_mem hk)
  obtain ⟨A', c', e2, hr⟩ := hp
  have h2 := h1 0 xs[k].1 rfl
  rw [Nat.mul_one, Nat.add_zero] at h2
  exact ⟨b, off, A', c', e, by rw [h2, e2], A', c', rfl, hr⟩
set_option maxRecDepth 100000 in
set_option maxHeartbeats 2000000 in
theorem concat_any (w : World) (v : Value) (xs : List (Value × Bs)) (h : PAt w v xs) (hs : (joinB xs).length ≤ 1000000) (hn : xs.length ≤ 100000) : Calls Tryz.prog 85 #[v] w fun e w' => (∃ r, e = .returned r ∧ OwnB w' w.heap.size r (joinB xs)) ∧ Below w.heap.size w w' := by
  have HP0 := h
  obtain ⟨A, cap, rfl, hc1, hc2, _⟩ := h.sl
  have HP := Lib.hid HP0
  have HS := Lib.hid hs
  have HN := Lib.hid hn
  have HG : Hid (∀ n : Nat, n ≤ 10000000 → Calls Tryz.prog 133 #[.slice none 0 0, .int .i64 (n : Int)] w fun e w' => (∃ v, e = .returned v ∧ OwnB w' w.heap.size v []) ∧ Below w.heap.size w w') := Lib.hid (fun n hn => grow_nil w n hn)
  clear h HP0 hs
  go_enter Tryz.func85, Tryz.ntmps85
  go_wp2_with fail
  go_loopg [3, 11] xs.length (fun gf u3 u11 wx => ∃ k : Nat, u11 = .int .i64 (k : Int) ∧ u3 = .int .i64 ((joinB (xs.take k)).length : Int) ∧ k + gf = xs.length ∧ wx = w)
  case atStart => exact ⟨0, rfl, rfl, by omega, rfl⟩
  case round =>
    obtain ⟨k, rfl, rfl, hk, hw⟩ := hrel
    obtain rfl := hw.symm
    by_cases hlt : k < xs.length
    · obtain ⟨g', rfl⟩ : ∃ g', gk = g' + 1 := ⟨gk - 1, by omega⟩
      obtain ⟨b, off, A', c', rfl, hc, _⟩ := HP.out.at hlt
      have hk2 := joinB_take xs k hlt
      have hk3 := joinB_len xs (k + 1)
      have hk4 : (joinB (xs.take (k + 1))).length = (joinB (xs.take k)).length + xs[k].2.length := by rw [hk2, List.length_append]
      have HK := Lib.hid hk4
      obtain ⟨L, hL⟩ : ∃ L, (joinB (xs.take k)).length = L := ⟨_, rfl⟩
      obtain ⟨M, hM⟩ : ∃ M, xs[k].2.length = M := ⟨_, rfl⟩
      have hLM : L + M ≤ 1000000 := by have := HS.out; omega
      rw [hM] at hc
      rw [hL]
      have HL := Lib.hid (And.intro hL hM)
      have d0 : decide ((L : Int) + (M : Int) < 0) = false := decide_eq_false (by omega)
      clear hk2 hk3 hk4 hL hM
      go_wp2_with fail
      go_roundg g'
      case measure => omega
      case rel => exact ⟨k + 1, by first | rfl | go_num, by rw [HK.out, HL.out.1, HL.out.2]; first | rfl | go_num, by omega, rfl⟩
    · have e : k = xs.length := by omega
      subst e
      have HT : Hid ((joinB (xs.take xs.length)).length = (joinB xs).length) := Lib.hid (by rw [List.take_length])
      go_wp2_with (first | (go_at_call 133; refine (HG.out _ (by have := HS.out; have := HT.out; omega)).mono ?_; rintro e w1 ⟨⟨v1, rfl, ho⟩, hb⟩; have HO1 := Lib.hid ho; have HB1 := Lib.hid hb; clear ho hb))
      go_loopg [6, 27] xs.length (fun gf u6 u27 wx => ∃ k : Nat, u27 = .int .i64 (k : Int) ∧ k + gf = xs.length ∧ OwnB wx w.heap.size u6 (joinB (xs.take k)) ∧ Below w.heap.size w wx)
      case atStart => exact ⟨0, rfl, by omega, HO1.out, HB1.out⟩
      case round =>
        obtain ⟨k, rfl, hk, ho, hb⟩ := hrel
        have HO := Lib.hid ho
        have HB := Lib.hid hb
        clear ho hb
        by_cases hlt : k < xs.length
        · obtain ⟨g', rfl⟩ : ∃ g', gk = g' + 1 := ⟨gk - 1, by omega⟩
          obtain ⟨b, off, A', c', rfl, hc, hB⟩ := (HP.out.below HB.out).at hlt
          have hk2 := joinB_take xs k hlt
          have hk3 := joinB_len xs (k + 1)
          have HK := Lib.hid hk2
          have hr : ∃ v' w', (∀ ty, (Builtin.append_ #[31, 31] ty #[u6, .slice A' xs[k].2.length c']).run Tryz.prog wr = .ok v' w') ∧ OwnB w' w.heap.size v' (joinB (xs.take (k + 1))) ∧ Below w.heap.size w w' := by
            rw [hk2] at hk3 ⊢
            rw [List.length_append] at hk3
            exact app_any HO.out hB (by have := HS.out; omega) HB.out
          obtain ⟨v', w', hr1, hr2, hr3⟩ := hr
          have HR := Lib.hid hr1
          have HR2 := Lib.hid hr2
          have HR3 := Lib.hid hr3
          obtain ⟨M, hM⟩ : ∃ M, xs[k].2.length = M := ⟨_, rfl⟩
          rw [hM] at hc HR
          clear hr1 hr2 hr3 hk2 hk3 hB hM
          go_wp2_with (first | (at_builtin; refine wpList_append_eq HR.out rfl (.tmp 31) (.tmp 32) rfl rfl rfl ?_))
          go_roundg g'
          case measure => omega
          case rel => exact ⟨k + 1, by first | rfl | go_num, by omega, HR2.out, HR3.out⟩
        · have e : k = xs.length := by omega
          subst e
          go_wp2_with fail
          go_ret
          exact ⟨⟨_, rfl, by have := HO.out; rwa [List.take_length] at this⟩, HB.out⟩
end Go.Proofs.YtgjbnebmcmoilaaGreatDoor
namespace Go.Proofs.YtgjbnebmcmoilaaGreatDoor
set_option linter.unusedVariables false
set_option linter.unusedSimpArgs false
open Go.RowKit Go.MapKept
theorem wsize_alloc (w : World) (x : Obj) : (w.alloc x).heap.size = w.heap.size + 1 := Array.size_push _
theorem wheap_set {w : World} {C i : Nat} {cs : Array Value} {t : TypeId} {x : Value} (h : w.heap[C]? = some (.cells cs t (0, 0))) : (w.setCell ⟨C, i, none⟩ x).heap[C]? = some (.cells (cs.setIfInBounds i x) t (0, 0)) := heap_setCell_same w C i cs t x h
theorem wheap_setN (w : World) (p : Addr) (v : Value) (n : Nat) (hn : n ≠ p.block) : (w.setCell p v).heap[n]? = w.heap[n]? := Below.heap_setCell _ _ _ _ hn
theorem wcell_at {w : World} {C i : Nat} {cs : Array Value} {t : TypeId} (h : w.heap[C]? = some (.cells cs t (0, 0))) : w.cell? ⟨C, i, none⟩ = cs[i]? := by
  unfold World.cell?
  dsimp only
  rw [h]
  rfl
theorem wfroz_at {w : World} {C i : Nat} {cs : Array Value} {t : TypeId} (h : w.heap[C]? = some (.cells cs t (0, 0))) : w.frozen? ⟨C, i, none⟩ = false := by
  unfold World.frozen?
  dsimp only
  rw [h]
  simp
theorem wbelow_set {a w : World} {n : Nat} (h : Below n a w) {p : Addr} (hp : n ≤ p.block) (v : Value) : Below n a (w.setCell p v) :=
  ⟨h.os, h.tape, h.output, by rw [World.size_setCell]; exact h.size, fun k hk => (Below.heap_setCell _ _ _ _ (show k ≠ p.block by omega)).trans (h.block k hk)⟩
/-- What lies from B on may change, but nothing of what lies below it. -/
theorem app_at {W : World} {B : Nat} {v : Value} {A : Option Addr} {n c : Nat} {l news : Bs} (ho : OwnB W B v l) (hx : BAt W (.slice A n c) news) (hlen : l.length + news.length ≤ 10000000) (hB : B ≤ W.heap.size) :
    ∃ v' w', (∀ ty, (Builtin.append_ #[31, 31] ty #[v, .slice A n c]).run Tryz.prog W = .ok v' w') ∧ OwnB w' B v' (l ++ news) ∧ W.grownBy w' v.ownBlock ∧ (∀ b, v'.ownBlock = some b → v.ownBlock = some b ∨ W.heap.size ≤ b) := by
  by_cases h0 : 0 < news.length
  · obtain ⟨g, cap, w', h1, h2, h3, h4, h5⟩ := append_sl ho hx h0 hlen hB
    have h1' : ∀ ty, (Builtin.append_ #[31, 31] ty #[v, .slice A n c]).run Tryz.prog W = .ok (.slice (some ⟨g, 0, none⟩) (l ++ news).length cap) w' := by rw [List.length_append]; exact h1
    refine ⟨_, w', h1', by rw [List.length_append]; exact h2, h3, fun b hb => ?_⟩
    have : g = b := by simpa [Value.ownBlock] using hb
    subst this
    rcases h4 with h4 | h4
    · exact Or.inl h4
    · exact Or.inr (Nat.le_of_eq h4.symm)
  · obtain rfl : news = [] := List.eq_nil_of_length_eq_zero (by omega)
    obtain ⟨A', c', e, _⟩ := hx
    injection e with e1 e2 e3
    have hn : n = 0 := by simpa using e2
    subst hn
    obtain ⟨ii, hi0, hi1, hi2, hi3⟩ := info_parts info_byte
    exact ⟨v, W, fun ty => run_append_empty (P := Tryz.prog) W B 31 ty 5 ii 1 (by kernel_rfl) hi0 v l.length (l.map byteV) ho A c, by rw [List.append_nil]; exact ho, ⟨rfl, rfl, rfl, Nat.le_refl _, fun _ _ _ => rfl⟩, fun b hb => Or.inl hb⟩
theorem own_slice {w : World} {B : Nat} {v : Value} {l : Bs} (h : OwnB w B v l) : ∃ A n c, v = Value.slice A n c := by
  obtain ⟨A, c, e, _⟩ := h.sl
  exact ⟨A, _, c, e⟩
/-- A writer at p has written l. -/
structure WrAt (w : World) (B p : Nat) (l : Bs) (v : Value) : Prop where
  hp : w.heap[p]? = some (.cells #[v] 79 (0, 0))
  own : OwnB w B v l
  ne : v.ownBlock ≠ some p
  le : B ≤ p
theorem WrAt.lt {w : World} {B p : Nat} {l : Bs} {v : Value} (h : WrAt w B p l v) : p < w.heap.size := (Array.getElem?_eq_some_iff.1 h.hp).1
theorem WrAt.below {w w' : World} {B p : Nat} {l : Bs} {v : Value} (h : WrAt w B p l v) (hb : Below w.heap.size w w') : WrAt w' B p l v :=
  ⟨(hb.block p h.lt).trans h.hp, nown_below h.own hb, h.ne, h.le⟩
theorem WrAt.new (w : World) : WrAt (w.alloc (.cells #[.slice none 0 0] 79)) w.heap.size w.heap.size [] (.slice none 0 0) :=
  ⟨heap_alloc_new w _, nown_none _ _ _ _, by simp [Value.ownBlock], Nat.le_refl _⟩
/-- Nothing of what lay there changes but block p and the block ob. -/
structure Kbo (p : Nat) (ob : Option Nat) (a b : World) : Prop where
  os : b.os = a.os
  tape : b.tape = a.tape
  output : b.output = a.output
  size : a.heap.size ≤ b.heap.size
  block : ∀ k, k < a.heap.size → k ≠ p → ob ≠ some k → b.heap[k]? = a.heap[k]?
def NewOwn (w : World) (v v' : Value) : Prop := ∀ b, v'.ownBlock = some b → v.ownBlock = some b ∨ w.heap.size ≤ b
theorem Kbo.refl (p : Nat) (ob : Option Nat) (a : World) : Kbo p ob a a := ⟨rfl, rfl, rfl, Nat.le_refl _, fun _ _ _ _ => rfl⟩
theorem Kbo.trans {p : Nat} {a b c : World} {v v' : Value} (h : Kbo p v.ownBlock a b) (hn : NewOwn a v v') (k : Kbo p v'.ownBlock b c) : Kbo p v.ownBlock a c :=
  ⟨k.os.trans h.os, k.tape.trans h.tape, k.output.trans h.output, Nat.le_trans h.size k.size, fun j hj hp ho => (k.block j (Nat.lt_of_lt_of_le hj h.size) hp fun e => by
    rcases hn j e with h1 | h1
    · exact ho h1
    · omega).trans (h.block j hj hp ho)⟩
theorem Kbo.ofBelow {p : Nat} {ob : Option Nat} {a b : World} (h : Below a.heap.size a b) : Kbo p ob a b := ⟨h.os, h.tape, h.output, h.size, fun j hj _ _ => h.block j hj⟩
theorem Kbo.after {p : Nat} {ob : Option Nat} {a b c : World} (h : Below a.heap.size a b) (k : Kbo p ob b c) : Kbo p ob a c :=
  ⟨k.os.trans h.os, k.tape.trans h.tape, k.output.trans h.output, Nat.le_trans h.size k.size, fun j hj hp ho => (k.block j (Nat.lt_of_lt_of_le hj h.size) hp ho).trans (h.block j hj)⟩
theorem NewOwn.refl (w : World) (v : Value) : NewOwn w v v := fun b hb => Or.inl hb
theorem NewOwn.trans {w w' : World} {v v' v'' : Value} (h : NewOwn w v v') (hs : w.heap.size ≤ w'.heap.size) (k : NewOwn w' v' v'') : NewOwn w v v'' := fun b hb => by
  rcases k b hb with h1 | h1
  · exact h b h1
  · exact Or.inr (Nat.le_trans hs h1)
theorem NewOwn.earlier {w w' : World} {v v' : Value} (h : NewOwn w' v v') (hs : w.heap.size ≤ w'.heap.size) : NewOwn w v v' := fun b hb => by
  rcases h b hb with h1 | h1
  · exact Or.inl h1
  · exact Or.inr (Nat.le_trans hs h1)
/-- After an append the writer's field is set. -/
theorem WrAt.put {W W6 : World} {B p : Nat} {l news : Bs} {v v' : Value} (h : WrAt W B p l v) (ho : OwnB W6 B v' (l ++ news)) (hg : W.grownBy W6 v.ownBlock) (hv : NewOwn W v v') :
    W6.cell? ⟨p, 0, none⟩ = some v ∧ W6.frozen? ⟨p, 0, none⟩ = false ∧ WrAt (W6.setCell ⟨p, 0, none⟩ v') B p (l ++ news) v' ∧ Kbo p v.ownBlock W (W6.setCell ⟨p, 0, none⟩ v') := by
  have h6 : W6.heap[p]? = some (.cells #[v] 79 (0, 0)) := (hg.block p h.lt (fun e => h.ne e.symm)).trans h.hp
  have hne : v'.ownBlock ≠ some p := fun e => by
    rcases hv p e with h1 | h1
    · exact h.ne h1
    · have := h.lt
      omega
  refine ⟨wcell_at h6, wfroz_at h6, ⟨wheap_set h6, nown_keep ho fun g hgb => wheap_setN _ _ _ _ (fun e => hne (hgb.trans (congrArg some e))), hne, h.le⟩, ⟨hg.os, hg.tape, hg.output, by rw [World.size_setCell]; exact hg.size, fun k hk hp ho => (wheap_setN _ _ _ _ hp).trans (hg.block k hk fun e => ho e.symm)⟩⟩
set_option maxRecDepth 100000 in
set_option maxHeartbeats 2000000 in
theorem write_any (w : World) (B p : Nat) (l : Bs) (v pv : Value) (xs : List (Value × Bs)) (hw : WrAt w B p l v) (h : PAt w pv xs) (hs : (joinB xs).length ≤ 1000000) (hn : xs.length ≤ 100000) (hl : l.length ≤ 1000000) :
    Calls Tryz.prog 52 #[.pointer (some ⟨p, 0, none⟩), pv] w fun e w' => e = .returned (.tuple #[]) ∧ (∃ v', WrAt w' B p (l ++ joinB xs) v' ∧ NewOwn w v v') ∧ Kbo p v.ownBlock w w' := by
  have HC : Hid (∀ V, Below w.heap.size w V → Calls Tryz.prog 85 #[pv] V fun e w' => (∃ r, e = .returned r ∧ OwnB w' V.heap.size r (joinB xs)) ∧ Below V.heap.size V w') := Lib.hid fun V hV => concat_any V pv xs (h.below hV) hs hn
  have HW := Lib.hid hw
  have HS := Lib.hid hs
  have HL := Lib.hid hl
  have c0 : w.cell? ⟨p, 0, none⟩ = some v := wcell_at hw.hp
  clear hw h hs hn hl
  go_enter Tryz.func52, Tryz.ntmps52
  go_wp2_with fail
  go_region_law
    ((first | (go_simp; refine (HC.out _ (Below.refl _ w).drew).mono ?_; rintro e w8 ⟨⟨r, rfl, hr⟩, hb8⟩; have HB8 : Hid (Below w.heap.size w w8) := Lib.hid ((Below.refl _ w).drew.trans hb8); have hsl := hr.sl; obtain ⟨A, c, rfl, hh⟩ := id hsl; have n1 : w8.cell? ⟨p, 0, none⟩ = some v := cell_below HB8.out c0; obtain ⟨v', w6, hr6, ho6, hg6, hv6⟩ := app_at (HW.out.below HB8.out).own hsl (by have := HS.out; have := HL.out; omega) (Nat.le_trans (HW.out.below HB8.out).le (Nat.le_of_lt (HW.out.below HB8.out).lt)); obtain ⟨A6, m6, c6, rfl⟩ := own_slice ho6; have HR6 := Lib.hid hr6; have HP6 := Lib.hid ((HW.out.below HB8.out).put ho6 hg6 hv6); have HN6 : Hid (NewOwn w v (.slice A6 m6 c6)) := Lib.hid (NewOwn.earlier hv6 HB8.out.size); clear hr hb8 hsl hh hr6 ho6 hg6 hv6; dsimp only) | (refine step_append_eq HR6.out (by rfl) _ _ (by rfl) (by rfl) (by rfl) ?_; have y1 := HP6.out.1; have y2 := HP6.out.2.1)))
  all_goals
    go_wp2_with fail
    refine bodyPost_end (results_none rfl _ _ _) rfl ⟨rfl, ⟨_, HP6.out.2.2.1, HN6.out⟩, Kbo.after HB8.out HP6.out.2.2.2⟩
end Go.Proofs.YtgjbnebmcmoilaaGreatDoor
namespace Go.Proofs.YtgjbnebmcmoilaaGreatDoor
set_option linter.unusedVariables false
set_option linter.unusedSimpArgs false
open Go.RowKit Go.MapKept
def bsOf (s : ByteArray) : Bs := s.data.toList
theorem bsOf_len (s : ByteArray) : (bsOf s).length = s.size := by
  show s.data.toList.length = s.data.size
  exact Array.length_toList
/-- The bytes of a string, in memory of their own. -/
theorem conv_bytes (w : World) (s : ByteArray) (hs : s.size ≤ 10000000) : ∃ n c w', (convert 9 31 (.string s)).run Tryz.prog w = .ok (.slice (some ⟨w.heap.size, 0, none⟩) n c) w' ∧ BAt w' (.slice (some ⟨w.heap.size, 0, none⟩) n c) (bsOf s) ∧ Below w.heap.size w w' := by
  have hr := run_bytes_of_string (P := Tryz.prog) w 9 31 5 s (by kernel_rfl) (by kernel_rfl) (by kernel_rfl)
  have hge : s.size ≤ grownCap w s.size 0 5 := grownCap_ge w _ _ _
  have hm := grownCap_le_maxLen w s.size 0 5 (by unfold maxLen; omega)
  have hlen : (bsOf s).length = s.size := bsOf_len s
  refine ⟨_, _, _, hr, ⟨_, _, by rw [hlen], by rw [hlen]; exact hge, by unfold maxLen at hm; omega, fun h0 => ⟨w.heap.size, 0, rfl, fun i hi j u hu => ?_⟩⟩, nbl_step (Below.refl _ w).drew (below_alloc _ _)⟩
  have hj : j = 0 := by
    have := (List.getElem?_eq_some_iff.1 hu).1
    simp [byteCells] at this
    exact this
  subst hj
  have hu2 : u = byteV (bsOf s)[i] := by simpa [byteCells] using hu.symm
  subst hu2
  have hh : (w.drew.alloc (.cells (bytesRow s (grownCap w s.size 0 5)) 5 ((bytesRow s (grownCap w s.size 0 5)).size, (bytesRow s (grownCap w s.size 0 5)).size + 1))).heap[w.heap.size]? = some (.cells (bytesRow s (grownCap w s.size 0 5)) 5 ((bytesRow s (grownCap w s.size 0 5)).size, (bytesRow s (grownCap w s.size 0 5)).size + 1)) := by
    show (w.heap.push _)[w.heap.size]? = _
    simp
  unfold World.cell?
  dsimp only
  rw [hh]
  have hi' : i < s.data.size := by rw [hlen] at hi; exact hi
  show (bytesRow s _)[0 + i * 1 + 0]? = _
  rw [show 0 + i * 1 + 0 = i by omega]
  unfold bytesRow
  rw [Array.getElem?_append_left (by simpa using hi')]
  simp [byteV, bsOf]
  exact ⟨_, Array.getElem?_eq_getElem hi', rfl⟩
set_option maxRecDepth 100000 in
set_option maxHeartbeats 1000000 in
/-- slices.Clone of bytes. -/
theorem clone_bytes (w : World) (v : Value) (l : Bs) (h : BAt w v l) (hl : l.length ≤ 1000000) (hnil : v = .slice none 0 0 ∨ ∃ b off n c, v = .slice (some ⟨b, off, none⟩) n c) : Calls Tryz.prog 54 #[v] w fun e w' => (∃ r, e = .returned r ∧ OwnB w' w.heap.size r l) ∧ Below w.heap.size w w' := by
  rcases hnil with rfl | ⟨b, off, n, c, rfl⟩
  · have hl0 : l = [] := by
      obtain ⟨A', c', e, _⟩ := h
      injection e with _ e2
      exact List.eq_nil_of_length_eq_zero e2.symm
    subst hl0
    have hq : ∀ W, (binOp .eql 31 (.slice none 0 0) (.slice none 0 0)).run Tryz.prog W = .ok (.bool true) W := fun W => Lib.run_eql_slice_nil W _ _ none 0 0 0 0 Tryz.underlying31
    clear h
    go_enter Tryz.func54, Tryz.ntmps54
    go_wp2_with fail
    go_ret
    exact ⟨⟨_, rfl, nown_none _ _ _ _⟩, Below.refl _ _⟩
  · have hq : ∀ W, (binOp .eql 31 (.slice (some ⟨b, off, none⟩) n c) (.slice none 0 0)).run Tryz.prog W = .ok (.bool false) W := fun W => Lib.run_eql_slice_nil W _ _ (some ⟨b, off, none⟩) n c 0 0 Tryz.underlying31
    have hown : OwnB (w.alloc (.cells #[] 5)) w.heap.size (.slice (some ⟨w.heap.size, 0, none⟩) 0 0) [] := nown_new w #[] 5 1 0 w.heap.size rfl (by omega) (Nat.le_refl _)
    obtain ⟨v', w6, hr6, ho6, hg6, hv6⟩ := app_at hown (h.below (below_alloc _ _)) (by simp; omega) (by rw [wsize_alloc]; omega)
    obtain ⟨A6, m6, c6, rfl⟩ := own_slice ho6
    have HR := Lib.hid hr6
    have HO := Lib.hid ho6
    have HB : Hid (Below w.heap.size w w6) := Lib.hid (Below.grown (below_alloc w _) hg6 (by rw [wsize_alloc]; omega) fun k hk => (nown_block hown hk).1)
    clear h hown hr6 ho6 hg6 hv6
    go_enter Tryz.func54, Tryz.ntmps54
    go_wp2_with (first | (at_builtin; refine wpList_append_eq HR.out rfl (.tmp 5) (.tmp 6) rfl rfl rfl ?_))
    go_ret
    exact ⟨⟨_, rfl, by simpa using HO.out⟩, HB.out⟩
theorem part1 {W : World} {v : Value} {l : Bs} (h : BAt W v l) : PAt (W.alloc (.cells #[v] 31)) (.slice (some ⟨W.heap.size, 0, none⟩) 1 1) [(v, l)] :=
  ⟨⟨_, 1, rfl, Nat.le_refl _, by omega, fun _ => ⟨W.heap.size, 0, rfl, fun i hi j u hu => by
    have hi0 : i = 0 := by simp at hi; exact hi
    subst hi0
    have hj : j = 0 := by
      have := (List.getElem?_eq_some_iff.1 hu).1
      simp [partCells] at this
      exact this
    subst hj
    have : u = v := by simpa [partCells] using hu.symm
    subst this
    rw [World.cell?_alloc_new]
    rfl⟩⟩, fun x hx => by
    obtain rfl : x = (v, l) := by simpa using hx
    exact h.below (below_alloc _ _)⟩
theorem part2 {W : World} {v1 v2 : Value} {l1 l2 : Bs} (h1 : BAt W v1 l1) (h2 : BAt W v2 l2) : PAt (W.alloc (.cells #[v1, v2] 31)) (.slice (some ⟨W.heap.size, 0, none⟩) 2 2) [(v1, l1), (v2, l2)] :=
  ⟨⟨_, 2, rfl, Nat.le_refl _, by omega, fun _ => ⟨W.heap.size, 0, rfl, fun i hi j u hu => by
    have hj : j = 0 := by
      have := (List.getElem?_eq_some_iff.1 hu).1
      simp [partCells] at this
      exact this
    subst hj
    rw [World.cell?_alloc_new]
    match i, hi with
    | 0, _ => simpa [partCells] using hu
    | 1, _ => simpa [partCells] using hu⟩⟩, fun x hx => by
    have hx2 : x = (v1, l1) ∨ x = (v2, l2) := by simpa using hx
    rcases hx2 with rfl | rfl
    · exact h1.below (below_alloc _ _)
    · exact h2.below (below_alloc _ _)⟩
set_option maxRecDepth 100000 in
set_option maxHeartbeats 1000000 in
theorem num_any (w : World) (B p : Nat) (l : Bs) (v : Value) (n : Nat) (hw : WrAt w B p l v) (hn : n < 18446744073709551616) (hl : l.length ≤ 1000000) :
    Calls Tryz.prog 30 #[.pointer (some ⟨p, 0, none⟩), .int .u64 (n : Int)] w fun e w' => e = .returned (.tuple #[]) ∧ (∃ v', WrAt w' B p (l ++ numB n) v' ∧ NewOwn w v v') ∧ Kbo p v.ownBlock w w' := by
  have HN := Lib.hid (number_any w n hn)
  have HW := Lib.hid hw
  have HL := Lib.hid hl
  clear hw hn hl
  go_enter Tryz.func30, Tryz.ntmps30
  go_wp2_with (first | (go_at_call 53; refine HN.out.mono ?_; rintro e w1 ⟨⟨r, rfl, hr⟩, hb⟩; obtain ⟨A1, m1, c1, rfl⟩ := own_slice hr; have HB1 := Lib.hid hb; have HR := Lib.hid hr; clear hr hb) | (go_at_call 52; refine (write_any _ B p l v _ [(.slice A1 m1 c1, numB n)] ((HW.out.below HB1.out).below (below_alloc _ _)) (part1 HR.out.sl) (by have : (numB n).length ≤ 10 := numF_len 9 n; simp [joinB]; omega) (by simp) HL.out).mono ?_; rintro e w2 ⟨rfl, hv, hb⟩; have HV := Lib.hid hv; have HB2 := Lib.hid hb; clear hv hb))
  refine bodyPost_end (results_none rfl _ _ _) rfl ⟨rfl, by have := HV.out; obtain ⟨v', h1, h2⟩ := this; exact ⟨v', by simpa [joinB] using h1, h2.earlier (Nat.le_trans HB1.out.size (by rw [wsize_alloc]; omega))⟩, Kbo.after (nbl_al HB1.out) HB2.out⟩
set_option maxRecDepth 100000 in
set_option maxHeartbeats 1000000 in
theorem put_any (w : World) (B p : Nat) (l m : Bs) (v : Value) (A1 : Option Addr) (m1 c1 : Nat) (hw : WrAt w B p l v) (hx : BAt w (.slice A1 m1 c1) m) (hm : m.length ≤ 1000000) (hl : l.length ≤ 1000000) :
    Calls Tryz.prog 58 #[.pointer (some ⟨p, 0, none⟩), .slice A1 m1 c1] w fun e w' => e = .returned (.tuple #[]) ∧ (∃ v', WrAt w' B p (l ++ m) v' ∧ NewOwn w v v') ∧ Kbo p v.ownBlock w w' := by
  have HX := Lib.hid hx
  have HM := Lib.hid hm
  have HW := Lib.hid hw
  have HL := Lib.hid hl
  clear hw hx hm hl
  go_enter Tryz.func58, Tryz.ntmps58
  go_wp2_with (first | (go_at_call 52; refine (write_any _ B p l v _ [(.slice A1 m1 c1, m)] (HW.out.below (below_alloc _ _)) (part1 HX.out) (by have := HM.out; simpa [joinB] using this) (by simp) HL.out).mono ?_; rintro e w2 ⟨rfl, hv, hb⟩; have HV := Lib.hid hv; have HB2 := Lib.hid hb; clear hv hb))
  refine bodyPost_end (results_none rfl _ _ _) rfl ⟨rfl, by have := HV.out; obtain ⟨v', h1, h2⟩ := this; exact ⟨v', by simpa [joinB] using h1, h2.earlier (by rw [wsize_alloc]; omega)⟩, Kbo.after (below_alloc _ _) HB2.out⟩
set_option maxRecDepth 100000 in
set_option maxHeartbeats 1000000 in
theorem string_any (w : World) (B p : Nat) (l : Bs) (v : Value) (s : ByteArray) (hw : WrAt w B p l v) (hs : s.size ≤ 900000) (hl : l.length ≤ 1000000) :
    Calls Tryz.prog 38 #[.pointer (some ⟨p, 0, none⟩), .string s] w fun e w' => e = .returned (.tuple #[]) ∧ (∃ v', WrAt w' B p (l ++ (numB s.size ++ bsOf s)) v' ∧ NewOwn w v v') ∧ Kbo p v.ownBlock w w' := by
  have HN := Lib.hid (number_any w s.size (by omega))
  have HW := Lib.hid hw
  have HL := Lib.hid hl
  have HS := Lib.hid hs
  have hs2 : (s.size : Int) < 900001 := by omega
  have HC : Hid (∀ W : World, ∃ n c w', (convert 9 31 (.string s)).run Tryz.prog W = .ok (.slice (some ⟨W.heap.size, 0, none⟩) n c) w' ∧ BAt w' (.slice (some ⟨W.heap.size, 0, none⟩) n c) (bsOf s) ∧ Below W.heap.size W w') := Lib.hid fun W => conv_bytes W s (by omega)
  clear hw hl hs
  go_enter Tryz.func38, Tryz.ntmps38
  go_wp2_with (first | (go_at_call 53; refine HN.out.mono ?_; rintro e w1 ⟨⟨r, rfl, hr⟩, hb⟩; obtain ⟨A1, m1, c1, rfl⟩ := own_slice hr; have HB1 := Lib.hid hb; have HR := Lib.hid hr; clear hr hb; obtain ⟨n2, c2, w2, hcv, hb2, hbb⟩ := HC.out w1; have HR2 := Lib.hid hb2; have HBB := Lib.hid hbb; clear hb2 hbb) | (go_at_call 52; refine (write_any _ B p l v _ [(.slice A1 m1 c1, numB s.size), (.slice (some ⟨w1.heap.size, 0, none⟩) n2 c2, bsOf s)] (((HW.out.below HB1.out).below HBB.out).below (below_alloc _ _)) (part2 (HR.out.sl.below HBB.out) HR2.out) (by have h1 : (numB s.size).length ≤ 10 := numF_len 9 _; have h2 := bsOf_len s; have h3 := HS.out; simp [joinB]; omega) (by simp) HL.out).mono ?_; rintro e w3 ⟨rfl, hv, hb⟩; have HV := Lib.hid hv; have HB3 := Lib.hid hb; clear hv hb))
  refine bodyPost_end (results_none rfl _ _ _) rfl ⟨rfl, by have := HV.out; obtain ⟨v', h1, h2⟩ := this; exact ⟨v', by simpa [joinB] using h1, h2.earlier (Nat.le_trans HB1.out.size (Nat.le_trans HBB.out.size (by rw [wsize_alloc]; omega)))⟩, Kbo.after (nbl_al (nbl_step HB1.out HBB.out)) HB3.out⟩
end Go.Proofs.YtgjbnebmcmoilaaGreatDoor
namespace Go.Proofs.YtgjbnebmcmoilaaGreatDoor
set_option linter.unusedVariables false
set_option linter.unusedSimpArgs false
open Go.RowKit Go.MapKept
def numOf : Value → Int
  | .int _ c => c
  | _ => 0
def isU32 : Value → Bool
  | .int .u32 _ => true
  | _ => false
theorem crcTab_u32 : (crcTab.all isU32) = true := by kernel_rfl
theorem crcTab_len : crcTab.length = 256 := by kernel_rfl
def tabN (j : Nat) : Int := numOf (crcTab.getD j (.bool false))
theorem tab_at (j : Nat) (hj : j < 256) : crcTab[j]? = some (.int .u32 (tabN j)) := by
  have hj' : j < crcTab.length := by rw [crcTab_len]; exact hj
  have h := List.all_eq_true.1 crcTab_u32 crcTab[j] (List.getElem_mem hj')
  unfold tabN
  rw [List.getD_eq_getElem?_getD, List.getElem?_eq_getElem hj']
  dsimp only [Option.getD]
  cases hx : crcTab[j] with
  | int k c => 
    rw [hx] at h
    cases k <;> first | rfl | cases h
  | _ => rw [hx] at h; cases h
/-- crc's table lies at g. -/
structure TabAt (w : World) (g : Nat) : Prop where
  at_ : ∀ j, j < 256 → w.cell? ⟨g, j, none⟩ = some (.int .u32 (tabN j))
theorem TabAt.below {w w' : World} {g : Nat} (h : TabAt w g) (hb : Below w.heap.size w w') : TabAt w' g := ⟨fun j hj => cell_below hb (h.at_ j hj)⟩
theorem made_tab (w : World) (hs : gvb.ng ≤ w.heap.size) : Calls Tryz.prog 59 #[] w fun e w' => (∃ g, e = .returned (.pointer (some ⟨g, 0, none⟩)) ∧ TabAt w' g) ∧ Below w.heap.size w w' :=
  (made_any w hs).mono fun e w' ⟨g, cur, ty, h1, h2, h3, h4, h5, h6⟩ => ⟨⟨g, h1, ⟨fun j hj => by
    have := tab_at j hj
    rw [← h5, List.getElem?_take_of_lt (by rw [crcTab_len]; exact hj), Array.getElem?_toList] at this
    exact (wcell_at h3).trans this⟩⟩, h6⟩
/-- A number after the step of a byte. -/
def crcStep (n : Int) (x : UInt8) : Int := bits BinOp.xor IntKind.u32 (tabN (bits BinOp.xor IntKind.u8 (n % 256) (x.toNat : Int)).toNat) (n / 256)
set_option maxRecDepth 100000 in
set_option maxHeartbeats 1000000 in
theorem step_any (w : World) (g : Nat) (n : Int) (x : UInt8) (h : TabAt w g) : Calls Tryz.prog 60 #[.pointer (some ⟨g, 0, none⟩), .int .u32 n, .int .u8 (x.toNat : Int)] w fun e w' => e = .returned (.int .u32 (crcStep n x)) ∧ w' = w := by
  unfold crcStep
  obtain ⟨j, hj, hj2⟩ : ∃ j : Nat, bits BinOp.xor IntKind.u8 (n % 256) (x.toNat : Int) = (j : Int) ∧ j < 256 := by
    have h1 := bits_within BinOp.xor IntKind.u8 (n % 256) (x.toNat : Int)
    have h2 : (0 : Int) ≤ bits BinOp.xor IntKind.u8 (n % 256) (x.toNat : Int) := h1.1
    have h3 : bits BinOp.xor IntKind.u8 (n % 256) (x.toNat : Int) ≤ 255 := h1.2
    exact ⟨(bits BinOp.xor IntKind.u8 (n % 256) (x.toNat : Int)).toNat, by omega, by omega⟩
  have c := h.at_ j hj2
  rw [hj]
  have b1 : (0 : Int) ≤ (j : Int) := by omega
  have b2 : (j : Int) < 256 := by omega
  clear h
  go_enter Tryz.func60, Tryz.ntmps60
  go_wp2_with fail
  go_ret
  exact ⟨by simp, rfl⟩
def notU (n : Int) : Int := bits BinOp.xor IntKind.u32 IntKind.u32.max n
/-- The check sum of bytes with l behind them, by the check sum of the first ones. -/
def crcU (s : Int) (l : Bs) : Int := notU (l.foldl crcStep (notU s))
theorem fold_snoc (l : Bs) (k : Nat) (hk : k < l.length) (n : Int) : (l.take (k + 1)).foldl crcStep n = crcStep ((l.take k).foldl crcStep n) l[k] := by
  rw [take_snoc l k hk, List.foldl_append]
  rfl
theorem BAt.at {w : World} {A : Option Addr} {n c : Nat} {l : Bs} (h : BAt w (.slice A n c) l) {k : Nat} (hk : k < l.length) : ∃ b off, A = some ⟨b, off, none⟩ ∧ w.cell? ⟨b, off + k, none⟩ = some (.int .u8 (l[k].toNat : Int)) := by
  obtain ⟨b, off, e, h1⟩ := h.elem hk
  have := h1 0 (byteV l[k]) rfl
  rw [Nat.mul_one, Nat.add_zero] at this
  exact ⟨b, off, e, this⟩
set_option maxRecDepth 100000 in
set_option maxHeartbeats 1000000 in
theorem update_any (w : World) (hs : gvb.ng ≤ w.heap.size) (s : Int) (v : Value) (l : Bs) (hv : BAt w v l) : Calls Tryz.prog 39 #[.int .u32 s, v] w fun e w' => e = .returned (.int .u32 (crcU s l)) ∧ Below w.heap.size w w' := by
  obtain ⟨A, cap, rfl, hc1, hc2, _⟩ := id hv
  have HM := Lib.hid (made_tab w hs)
  have HV := Lib.hid hv
  have HST := Lib.hid (fun W g n x => step_any W g n x)
  clear hv hs
  go_enter Tryz.func39, Tryz.ntmps39
  go_wp2_with (first | (go_at_call 59; refine HM.out.mono ?_; rintro e w1 ⟨⟨g, rfl, hg⟩, hb⟩; have HG := Lib.hid hg; have HB := Lib.hid hb; clear hg hb))
  go_loopg [6, 14] l.length (fun gf u6 u14 wx => ∃ k : Nat, u14 = .int .i64 (k : Int) ∧ u6 = .int .u32 ((l.take k).foldl crcStep (notU s)) ∧ k + gf = l.length ∧ wx = w1)
  case atStart => exact ⟨0, rfl, rfl, by omega, rfl⟩
  case round =>
    obtain ⟨k, rfl, rfl, hk, hw⟩ := hrel
    obtain rfl := hw.symm
    by_cases hlt : k < l.length
    · obtain ⟨g', rfl⟩ : ∃ g', gk = g' + 1 := ⟨gk - 1, by omega⟩
      obtain ⟨b, off, rfl, hc⟩ := BAt.at (HV.out.below HB.out) hlt
      have HF := Lib.hid (fold_snoc l k hlt (notU s))
      obtain ⟨n, hn⟩ : ∃ n, (l.take k).foldl crcStep (notU s) = n := ⟨_, rfl⟩
      obtain ⟨x, hx⟩ : ∃ x, l[k] = x := ⟨_, rfl⟩
      rw [hn, hx] at HF
      rw [hx] at hc
      rw [hn]
      clear hn hx
      go_wp2_with (first | (go_at_call 60; refine (HST.out _ g n x HG.out).mono ?_; rintro e w2 ⟨rfl, hw2⟩; obtain rfl := hw2.symm))
      go_roundg g'
      case measure => omega
      case rel => exact ⟨k + 1, by first | rfl | go_num, by rw [HF.out], by omega, rfl⟩
    · have e : k = l.length := by omega
      subst e
      have HT : Hid ((l.take l.length).foldl crcStep (notU s) = l.foldl crcStep (notU s)) := Lib.hid (by rw [List.take_length])
      obtain ⟨n, hn⟩ : ∃ n, (l.take l.length).foldl crcStep (notU s) = n := ⟨_, rfl⟩
      rw [hn] at HT
      rw [hn]
      clear hn
      go_wp2_with fail
      go_ret
      exact ⟨by rw [HT.out]; rfl, HB.out⟩
set_option maxRecDepth 100000 in
theorem sum_any (w : World) (hs : gvb.ng ≤ w.heap.size) (v : Value) (l : Bs) (hv : BAt w v l) : Calls Tryz.prog 31 #[v] w fun e w' => e = .returned (.int .u32 (crcU 0 l)) ∧ Below w.heap.size w w' := by
  have HU := Lib.hid (update_any w hs 0 v l hv)
  clear hs hv
  go_enter Tryz.func31, Tryz.ntmps31
  go_wp2_with (first | (go_at_call 39; refine HU.out.mono ?_; rintro e w1 ⟨rfl, hb⟩; have HB := Lib.hid hb; clear hb))
  go_ret
  exact ⟨rfl, HB.out⟩
set_option maxRecDepth 100000 in
set_option maxHeartbeats 1000000 in
theorem bytes_any (w : World) (B p : Nat) (l : Bs) (v : Value) (hw : WrAt w B p l v) (hl : l.length ≤ 1000000) : Calls Tryz.prog 32 #[.pointer (some ⟨p, 0, none⟩)] w fun e w' => (∃ r, e = .returned r ∧ OwnB w' w.heap.size r l) ∧ Below w.heap.size w w' := by
  have c0 : w.cell? ⟨p, 0, none⟩ = some v := wcell_at hw.hp
  have hnil : v = .slice none 0 0 ∨ ∃ b off n c, v = .slice (some ⟨b, off, none⟩) n c := by
    rcases hw.own.2 with ⟨h, _⟩ | ⟨g, cap, cur, h, _⟩
    · exact Or.inl h
    · exact Or.inr ⟨g, 0, _, cap, h⟩
  have HC := Lib.hid (clone_bytes w v l hw.own.sl hl hnil)
  clear hw hnil
  go_enter Tryz.func32, Tryz.ntmps32
  go_wp2_with (first | (go_at_call 54; refine HC.out.mono ?_; rintro e w1 ⟨⟨r, rfl, hr⟩, hb⟩; have HR := Lib.hid hr; have HB := Lib.hid hb; clear hr hb))
  go_ret
  exact ⟨⟨_, rfl, HR.out⟩, HB.out⟩
end Go.Proofs.YtgjbnebmcmoilaaGreatDoor
