/- Maps in the heap as partial functions from plain keys to values: look-up, store, and ranging, for any program. -/
import Derived.WalkKit
import Derived.Maps.RangeWalk
import Derived.Maps.OwnOps
namespace Go.Proofs.YtahklchfchjmcaaDoor
set_option linter.unusedVariables false
set_option linter.unusedSimpArgs false
open Go.RowKit Go.MapKept
open Go.ChangeMaps (setBlock heap_setBlock_same heap_setBlock_other)

/-- How keys of a plain type are laid. -/
structure KeyEnc (d : TypeDesc) {κ : Type} (enc : κ → Value) : Prop where
  isKey : ∀ k, IsKey d (enc k)
  inj : ∀ a b, enc a = enc b → a = b

abbrev ienc (k : Int) : Value := .int .i64 k
abbrev senc (k : ByteArray) : Value := .string k
theorem ikey : KeyEnc (.int .i64) ienc := ⟨fun _ => rfl, fun a b h => by injection h⟩
theorem skey : KeyEnc .string senc := ⟨fun _ => trivial, fun a b h => by injection h⟩

/-- Block b is a map that holds f. -/
def MapAt {κ : Type} (enc : κ → Value) (w : World) (b : Nat) (f : κ → Option Value) : Prop :=
  ∃ es clock, w.heap[b]? = some (.map es clock) ∧ Stamped es clock ∧ (∀ e ∈ es.toList, ∃ k, e.key = enc k) ∧ (∀ k v, f k = some v ↔ ∃ e ∈ es.toList, e.key = enc k ∧ e.val = v)

/-- The map's type, its key's type, and the zero value of its elements. -/
structure MapTy (P : Program) (t : TypeId) (d : TypeDesc) (z : Value) : Prop where
  ex : ∃ kt et, P.underlying t = some (.map kt et) ∧ P.underlying kt = some d ∧ ∀ w, (zeroValue et).run P w = .ok z w

section
variable {κ : Type} {enc : κ → Value} {d : TypeDesc} {P : Program} {t : TypeId} {z : Value} {w w' : World} {b : Nat} {f : κ → Option Value}

theorem MapAt.make (w : World) : MapAt enc (w.alloc (.map #[] 0)) w.heap.size (fun _ => none) :=
  ⟨#[], 0, heap_alloc_new w _, stamped_empty 0, by simp, by simp⟩

theorem MapAt.lt (h : MapAt enc w b f) : b < w.heap.size := by
  obtain ⟨es, clock, hb, _⟩ := h
  exact (Array.getElem?_eq_some_iff.1 hb).1

theorem MapAt.keep (h : MapAt enc w b f) (hb : w'.heap[b]? = w.heap[b]?) : MapAt enc w' b f := by
  obtain ⟨es, clock, h1, h2⟩ := h
  exact ⟨es, clock, hb.trans h1, h2⟩

theorem MapAt.grown {row : Option Nat} (h : MapAt enc w b f) (hg : w.grownBy w' row) (hne : some b ≠ row) : MapAt enc w' b f := h.keep (hg.block b h.lt hne)
theorem MapAt.alloc (h : MapAt enc w b f) (o : Obj) : MapAt enc (w.alloc o) b f := h.keep (Below.heap_alloc w o b h.lt)
theorem MapAt.drew (h : MapAt enc w b f) : MapAt enc w.drew b f := h
theorem MapAt.set (h : MapAt enc w b f) {p : Addr} (hp : b ≠ p.block) (u : Value) : MapAt enc (w.setCell p u) b f := h.keep (Below.heap_setCell w p u b hp)
theorem MapAt.below {B : Nat} (h : MapAt enc w b f) (hb : Below B w w') (hlt : b < B) : MapAt enc w' b f := h.keep (hb.block b hlt)

theorem MapAt.congr {g : κ → Option Value} (h : MapAt enc w b f) (e : ∀ k, f k = g k) : MapAt enc w b g := by
  have : f = g := funext e
  exact this ▸ h

theorem findNow_at (K : KeyEnc d enc) {es : Array MapEntry} {clock : Nat} (hs : Stamped es clock) (hk : ∀ e ∈ es.toList, ∃ k, e.key = enc k) (hf : ∀ k v, f k = some v ↔ ∃ e ∈ es.toList, e.key = enc k ∧ e.val = v) (k : κ) :
    (Instr.findNow d (enc k) es.toList 0 = some none ∧ f k = none ∧ ∀ x ∈ es.toList, x.key ≠ enc k) ∨
    ∃ j e, Instr.findNow d (enc k) es.toList 0 = some (some (j, e.val)) ∧ es.toList[j]? = some e ∧ e.key = enc k ∧ f k = some e.val := by
  have hks : ∀ x ∈ es.toList, IsKey d x.key := fun x hx => by
    obtain ⟨k', e⟩ := hk x hx
    exact e ▸ K.isKey k'
  rcases findNow_spec (K.isKey k) es.toList 0 hks with ⟨h1, h2⟩ | ⟨j, e, h1, h2, h3⟩
  · refine .inl ⟨h1, ?_, h2⟩
    cases hv : f k with
    | none => rfl
    | some v =>
      obtain ⟨e, he, hek, _⟩ := (hf k v).1 hv
      exact absurd hek (h2 e he)
  · exact .inr ⟨j, e, by simpa using h1, h2, h3, (hf k e.val).2 ⟨e, List.mem_of_getElem? h2, h3, rfl⟩⟩

theorem MapAt.run_find (h : MapAt enc w b f) (K : KeyEnc d enc) {kt : TypeId} (hd : P.underlying kt = some d) (k : κ) (w0 : World) :
    ∃ es clock, w.heap[b]? = some (.map es clock) ∧ Stamped es clock ∧
      (((Instr.findKey kt (enc k) es.toList).run P w0 = .ok none w0 ∧ f k = none ∧ ∀ x ∈ es.toList, x.key ≠ enc k) ∨
      ∃ j e, (Instr.findKey kt (enc k) es.toList).run P w0 = .ok (some (j, e.val)) w0 ∧ es.toList[j]? = some e ∧ e.key = enc k ∧ f k = some e.val) := by
  obtain ⟨es, clock, hb, hs, hk, hf⟩ := h
  refine ⟨es, clock, hb, hs, ?_⟩
  rcases findNow_at K hs hk hf k with ⟨h1, h2, h3⟩ | ⟨j, e, h1, h2, h3, h4⟩
  · exact .inl ⟨run_findKey hd h1, h2, h3⟩
  · exact .inr ⟨j, e, run_findKey hd h1, h2, h3, h4⟩

theorem MapAt.lookup (h : MapAt enc w b f) (K : KeyEnc d enc) (T : MapTy P t d z) (k : κ) : (Instr.lookup t (.map (some b)) (enc k) false).run P w = .ok ((f k).getD z) w := by
  obtain ⟨kt, et, ht, hd, hz⟩ := T.ex
  obtain ⟨es, clock, hb, hs, hr⟩ := h.run_find (P := P) K hd k w
  rcases hr with ⟨h1, h2, _⟩ | ⟨j, e, h1, _, _, h2⟩
  · simp [Instr.lookup, run_underlying ht, MapKept.run_getObj_map hb, run_checkKey hd (K.isKey k), h1, hz, Result.andThen, h2]
  · simp [Instr.lookup, run_underlying ht, MapKept.run_getObj_map hb, run_checkKey hd (K.isKey k), h1, Result.andThen, h2]

theorem MapAt.lookup_ok (h : MapAt enc w b f) (K : KeyEnc d enc) (T : MapTy P t d z) (k : κ) : (Instr.lookup t (.map (some b)) (enc k) true).run P w = .ok (.tuple #[(f k).getD z, .bool (f k).isSome]) w := by
  obtain ⟨kt, et, ht, hd, hz⟩ := T.ex
  obtain ⟨es, clock, hb, hs, hr⟩ := h.run_find (P := P) K hd k w
  rcases hr with ⟨h1, h2, _⟩ | ⟨j, e, h1, _, _, h2⟩
  · simp [Instr.lookup, run_underlying ht, MapKept.run_getObj_map hb, run_checkKey hd (K.isKey k), h1, hz, Result.andThen, h2]
  · simp [Instr.lookup, run_underlying ht, MapKept.run_getObj_map hb, run_checkKey hd (K.isKey k), h1, Result.andThen, h2]

theorem lookup_nil (K : KeyEnc d enc) (T : MapTy P t d z) (k : κ) (w : World) : (Instr.lookup t (.map none) (enc k) false).run P w = .ok z w := by
  obtain ⟨kt, et, ht, hd, hz⟩ := T.ex
  simp [Instr.lookup, run_underlying ht, run_checkKey hd (K.isKey k), Instr.findKey, run_underlying hd, Instr.findNow, hz, Result.andThen]

open Classical in
noncomputable def upd (f : κ → Option Value) (k : κ) (v : Value) : κ → Option Value := fun k' => if k' = k then some v else f k'
@[simp] theorem upd_same (f : κ → Option Value) (k : κ) (v : Value) : upd f k v k = some v := by simp [upd]
theorem upd_ne (f : κ → Option Value) {k k' : κ} (v : Value) (h : k' ≠ k) : upd f k v k' = f k' := by simp [upd, h]

theorem grownBy_setBlock (w : World) (b : Nat) (o : Obj) : w.grownBy (setBlock w b o) (some b) :=
  ⟨rfl, rfl, rfl, by simp [setBlock], fun k _ hk => by
    have : k ≠ b := fun e => hk (by rw [e])
    simp [setBlock, Ne.symm this]⟩

theorem MapAt.update (h : MapAt enc w b f) (K : KeyEnc d enc) (T : MapTy P t d z) (k : κ) (v : Value) :
    ∃ w', (Instr.mapUpdate t (.map (some b)) (enc k) v).run P w = .ok () w' ∧ MapAt enc w' b (upd f k v) ∧ w.grownBy w' (some b) ∧ w'.heap.size = w.heap.size := by
  obtain ⟨kt, et, ht, hd, hz⟩ := T.ex
  obtain ⟨es, clock, hb, hs, hk, hf⟩ := h
  rcases findNow_at K hs hk hf k with ⟨h1, h2, h3⟩ | ⟨j, e, h1, h2, h3, h4⟩
  · refine ⟨setBlock w b (.map (es.push { key := enc k, val := v, born := clock }) (clock + 1)), ?_, ⟨_, _, heap_setBlock_same hb _, stamped_push hs h3, ?_, ?_⟩, grownBy_setBlock _ _ _, by simp [setBlock]⟩
    · simp [Instr.mapUpdate, run_underlying ht, MapKept.run_getObj_map hb, run_checkKey hd (K.isKey k), run_findKey hd h1, MapKept.run_setObj_map _ hb, Result.andThen, setBlock]
    · intro x hx
      simp only [Array.toList_push, List.mem_append, List.mem_singleton] at hx
      rcases hx with hx | rfl
      · exact hk x hx
      · exact ⟨k, rfl⟩
    · intro k' v'
      by_cases e : k' = k
      · subst e
        rw [upd_same]
        constructor
        · intro e; injection e with e; subst e
          exact ⟨{ key := enc k', val := v, born := clock }, by simp, rfl, rfl⟩
        · rintro ⟨x, hx, hxk, hxv⟩
          simp only [Array.toList_push, List.mem_append, List.mem_singleton] at hx
          rcases hx with hx | rfl
          · exact absurd hxk (h3 x hx)
          · exact congrArg some hxv
      · rw [upd_ne _ _ e, hf]
        constructor
        · rintro ⟨x, hx, r⟩; exact ⟨x, by simp [hx], r⟩
        · rintro ⟨x, hx, hxk, hxv⟩
          simp only [Array.toList_push, List.mem_append, List.mem_singleton] at hx
          rcases hx with hx | rfl
          · exact ⟨x, hx, hxk, hxv⟩
          · exact absurd (K.inj _ _ hxk).symm e
  · have hst := (stamped_iff es clock).1 hs
    have hj : j < es.size := by
      have := (List.getElem?_eq_some_iff.1 h2).1
      simpa using this
    have hej : es[j] = e := by
      have := (List.getElem?_eq_some_iff.1 h2).2
      simpa using this
    refine ⟨setBlock w b (.map (es.modify j fun x => { x with key := enc k, val := v }) clock), ?_, ⟨_, _, heap_setBlock_same hb _, ?_, ?_, ?_⟩, grownBy_setBlock _ _ _, by simp [setBlock]⟩
    · have hkey : ((es[j]?).map (·.key)).getD (enc k) = enc k := by simp [Array.getElem?_eq_getElem hj, hej, h3]
      simp [Instr.mapUpdate, run_underlying ht, MapKept.run_getObj_map hb, run_checkKey hd (K.isKey k), run_findKey hd h1, MapKept.run_setObj_map _ hb, Result.andThen, setBlock, hkey, run_keyThatStays (K.isKey k)]
    · refine stamped_modify hs j _ (fun _ _ => rfl) (fun x _ hx => ?_)
      have : x = e := by
        rw [Array.getElem?_eq_getElem hj] at hx
        injection hx with hx
        rw [← hx, hej]
      subst this
      exact h3.symm
    · intro x hx
      obtain ⟨i, hi, rfl⟩ := List.getElem_of_mem hx
      simp only [Array.getElem_toList, Array.getElem_modify]
      split
      · exact ⟨k, rfl⟩
      · exact hk _ (by simp)
    · have hmem : ∀ x, x ∈ (es.modify j fun x => { x with key := enc k, val := v }).toList ↔ (x = { e with key := enc k, val := v }) ∨ (x ∈ es.toList ∧ x.key ≠ enc k) := by
        intro x
        constructor
        · intro hx
          obtain ⟨i, hi, rfl⟩ := List.getElem_of_mem hx
          simp only [Array.getElem_toList, Array.getElem_modify]
          have hi' : i < es.size := by simpa using hi
          by_cases hij : j = i
          · subst hij; left; simp [hej]
          · right
            rw [if_neg hij]
            refine ⟨by simp, fun hke => ?_⟩
            have hp := List.pairwise_iff_getElem.1 hst.2.2
            have hje : es[j].key = enc k := by rw [hej]; exact h3
            rcases Nat.lt_or_gt_of_ne hij with hlt | hlt
            · exact hp j i (by simpa using hj) (by simpa using hi') hlt (by simp [hje, hke])
            · exact hp i j (by simpa using hi') (by simpa using hj) hlt (by simp [hje, hke])
        · rintro (rfl | ⟨hx, hxk⟩)
          · refine List.mem_of_getElem? (i := j) ?_
            simp [Array.getElem?_modify, Array.getElem?_eq_getElem hj, hej]
          · obtain ⟨i, hi, rfl⟩ := List.getElem_of_mem hx
            have hij : j ≠ i := by
              rintro rfl
              exact hxk (by simp [hej, h3])
            refine List.mem_of_getElem? (i := i) ?_
            have hi' : i < es.size := by simpa using hi
            simp [Array.getElem?_modify, hij, Array.getElem?_eq_getElem hi']
      intro k' v'
      by_cases ek : k' = k
      · subst ek
        rw [upd_same]
        constructor
        · intro e'; injection e' with e'; subst e'
          exact ⟨_, (hmem _).2 (.inl rfl), rfl, rfl⟩
        · rintro ⟨x, hx, hxk, hxv⟩
          rcases (hmem x).1 hx with rfl | ⟨_, hn⟩
          · exact congrArg some hxv
          · exact absurd hxk hn
      · rw [upd_ne _ _ ek, hf]
        constructor
        · rintro ⟨x, hx, hxk, hxv⟩
          refine ⟨x, (hmem x).2 (.inr ⟨hx, fun h => ek (K.inj _ _ (hxk.symm.trans h))⟩), hxk, hxv⟩
        · rintro ⟨x, hx, hxk, hxv⟩
          rcases (hmem x).1 hx with rfl | ⟨hx', _⟩
          · exact absurd (K.inj _ _ hxk).symm ek
          · exact ⟨x, hx', hxk, hxv⟩

/-- An iterator r over map b that holds f: 'left' says which keys are still to come; n is how many. -/
def IterAt (enc : κ → Value) (w : World) (r b : Nat) (f : κ → Option Value) (left : κ → Prop) (n : Nat) : Prop :=
  ∃ es clock since seen c0, w.heap[b]? = some (.map es clock) ∧ Stamped es clock ∧ (∀ e ∈ es.toList, ∃ k, e.key = enc k) ∧ (∀ k v, f k = some v ↔ ∃ e ∈ es.toList, e.key = enc k ∧ e.val = v) ∧
    w.heap[r]? = some (.mapIter (some b) since seen c0) ∧ (∀ x ∈ es.toList, x.born < since) ∧ since ≤ c0 ∧ since ≤ clock ∧ (leftOf es seen).size = n ∧
    (∀ k, left k ↔ ∃ e ∈ es.toList, e.key = enc k ∧ seen.contains e.born = false)

theorem IterAt.map {r n : Nat} {left : κ → Prop} (h : IterAt enc w r b f left n) : MapAt enc w b f := by
  obtain ⟨es, clock, since, seen, c0, h1, h2, h3, h4, _⟩ := h
  exact ⟨es, clock, h1, h2, h3, h4⟩
theorem IterAt.lt {r n : Nat} {left : κ → Prop} (h : IterAt enc w r b f left n) : r < w.heap.size := by
  obtain ⟨es, clock, since, seen, c0, h1, h2, h3, h4, h5, _⟩ := h
  exact (Array.getElem?_eq_some_iff.1 h5).1
theorem IterAt.ne {r n : Nat} {left : κ → Prop} (h : IterAt enc w r b f left n) : r ≠ b := by
  obtain ⟨es, clock, since, seen, c0, h1, h2, h3, h4, h5, _⟩ := h
  rintro rfl
  rw [h1] at h5
  cases h5
theorem IterAt.keep {r n : Nat} {left : κ → Prop} (h : IterAt enc w r b f left n) (hb : w'.heap[b]? = w.heap[b]?) (hr : w'.heap[r]? = w.heap[r]?) : IterAt enc w' r b f left n := by
  obtain ⟨es, clock, since, seen, c0, h1, h2, h3, h4, h5, h6⟩ := h
  exact ⟨es, clock, since, seen, c0, hb.trans h1, h2, h3, h4, hr.trans h5, h6⟩
theorem IterAt.grown {r n : Nat} {left : κ → Prop} {row : Option Nat} (h : IterAt enc w r b f left n) (hg : w.grownBy w' row) (h1 : some b ≠ row) (h2 : some r ≠ row) : IterAt enc w' r b f left n :=
  h.keep (hg.block b h.map.lt h1) (hg.block r h.lt h2)

theorem MapAt.range (h : MapAt enc w b f) (T : MapTy P t d z) :
    (Instr.range t (.map (some b))).run P w = .ok (.pointer (some ⟨w.heap.size, 0, none⟩)) (w.alloc (.mapIter (some b) (w.heap[b]?.elim 0 fun | .map _ c => c | _ => 0) #[] (w.heap[b]?.elim 0 fun | .map _ c => c | _ => 0))) ∧
    ∃ n, IterAt enc (w.alloc (.mapIter (some b) (w.heap[b]?.elim 0 fun | .map _ c => c | _ => 0) #[] (w.heap[b]?.elim 0 fun | .map _ c => c | _ => 0))) w.heap.size b f (fun k => (f k).isSome) n := by
  obtain ⟨kt, et, ht, hd, hz⟩ := T.ex
  have hlt := h.lt
  obtain ⟨es, clock, hb, hs, hk, hf⟩ := h
  have e : (w.heap[b]?.elim 0 fun | .map _ c => c | _ => 0) = clock := by rw [hb]; rfl
  rw [e]
  refine ⟨run_range_map w t kt et b es clock ht hb, _, es, clock, clock, #[], clock, (Below.heap_alloc w _ b hlt).trans hb, hs, hk, hf, heap_alloc_new w _, ((stamped_iff es clock).1 hs).1, Nat.le_refl _, Nat.le_refl _, rfl, ?_⟩
  intro k
  constructor
  · intro h'
    obtain ⟨v, hv⟩ := Option.isSome_iff_exists.1 h'
    obtain ⟨x, hx, hxk, _⟩ := (hf k v).1 hv
    exact ⟨x, hx, hxk, by simp⟩
  · rintro ⟨x, hx, hxk, _⟩
    rw [(hf k x.val).2 ⟨x, hx, hxk, rfl⟩]
    rfl

theorem leftOf_push {es : Array MapEntry} {clock : Nat} (hs : Stamped es clock) {seen : Array Nat} {e : MapEntry} (he : e ∈ (leftOf es seen).toList) : (leftOf es (seen.push e.born)).size < (leftOf es seen).size := by
  have e1 : ∀ sn : Array Nat, (leftOf es sn).size = (es.toList.filter fun x => !sn.contains x.born).length := fun sn => by
    unfold leftOf
    rw [← Array.length_toList]
    simp
  rw [e1, e1]
  have he' : e ∈ es.toList.filter fun x => !seen.contains x.born := by
    unfold leftOf at he
    simpa using he
  have : (es.toList.filter fun x => !(seen.push e.born).contains x.born) = (es.toList.filter fun x => !seen.contains x.born).filter (fun x => !(x.born == e.born)) := by
    rw [List.filter_filter]
    refine List.filter_congr fun x _ => ?_
    cases h1 : (x.born == e.born) <;> cases h2 : seen.contains x.born <;> simp_all [Array.contains_push]
  rw [this]
  refine Nat.lt_of_le_of_ne (List.length_filter_le _ _) fun hlen => ?_
  have h2 := List.length_filter_eq_length_iff.1 hlen e he'
  simp at h2

/-- One step of a range over a map. -/
theorem IterAt.next {r n : Nat} {left : κ → Prop} (h : IterAt enc w r b f left n) (K : KeyEnc d enc) (ty : TypeId) :
    ((∀ k, ¬ left k) ∧ (Instr.next (.pointer (some ⟨r, 0, none⟩)) false ty).run P w = .ok (.tuple #[.bool false]) w) ∨
    ∃ k v w' n', left k ∧ f k = some v ∧ (Instr.next (.pointer (some ⟨r, 0, none⟩)) false ty).run P w = .ok (.tuple #[.bool true, enc k, v]) w' ∧
      IterAt enc w' r b f (fun k' => left k' ∧ k' ≠ k) n' ∧ n' < n ∧ w.grownBy w' (some r) ∧ w'.heap.size = w.heap.size ∧
      (Instr.entry (.pointer (some ⟨r, 0, none⟩))).run P w' = .ok (.tuple #[enc k, v]) w' := by
  have hne := h.ne
  obtain ⟨es, clock, since, seen, c0, hb, hs, hk, hf, hr, hold, hsc, hcl, hn, hl⟩ := h
  have hst := (stamped_iff es clock).1 hs
  rcases run_next_at w ty r b since c0 seen es clock hr hb hold hsc with ⟨h0, hrun⟩ | ⟨e, he, w1, hw1, hrun⟩
  · refine .inl ⟨fun k hk' => ?_, hrun⟩
    obtain ⟨x, hx, _, hxs⟩ := (hl k).1 hk'
    have : x ∈ (leftOf es seen).toList := by
      unfold leftOf
      simp only [Array.toList_filter, List.mem_filter]
      exact ⟨hx, by simpa using hxs⟩
    have hz : (leftOf es seen) = #[] := Array.eq_empty_of_size_eq_zero h0
    rw [hz] at this
    simp at this
  · have hmem : e ∈ es.toList ∧ seen.contains e.born = false := by
      unfold leftOf at he
      simp only [Array.toList_filter, List.mem_filter] at he
      exact ⟨he.1, by simpa using he.2⟩
    obtain ⟨k, hek⟩ := hk e hmem.1
    have hb1 : w1.heap = w.heap := by rcases hw1 with rfl | rfl <;> rfl
    have hset := heap_set (o' := .mapIter (some b) since (seen.push e.born) clock) (hb1 ▸ hr : w1.heap[r]? = some _)
    have hbb : (setBlock w1 r (.mapIter (some b) since (seen.push e.born) clock)).heap[b]? = some (.map es clock) := (hset.2 b (Ne.symm hne)).trans (hb1 ▸ hb)
    have hbw : ∀ o, (setBlock w1 r o).grownBy (setBlock w1 r o) none := fun _ => ⟨rfl, rfl, rfl, Nat.le_refl _, fun _ _ _ => rfl⟩
    refine .inr ⟨k, e.val, _, (leftOf es (seen.push e.born)).size, (hl k).2 ⟨e, hmem.1, hek, hmem.2⟩, (hf k e.val).2 ⟨e, hmem.1, hek, rfl⟩, hek ▸ hrun,
      ⟨es, clock, since, seen.push e.born, clock, hbb, hs, hk, hf, hset.1, hold, hcl, hcl, rfl, ?_⟩, hn ▸ leftOf_push hs he, ?_, ?_, ?_⟩
    · intro k'
      show (left k' ∧ k' ≠ k) ↔ _
      rw [hl k']
      constructor
      · rintro ⟨⟨x, hx, hxk, hxs⟩, hne'⟩
        refine ⟨x, hx, hxk, ?_⟩
        have : x.born ≠ e.born := fun hb' => by
          have : x = e := born_inj hst.2.1 hx hmem.1 hb'
          subst this
          exact hne' (K.inj _ _ (hxk.symm.trans hek))
        rw [Array.contains_push, hxs]
        simpa using this
      · rintro ⟨x, hx, hxk, hxs⟩
        simp only [Array.contains_push, Bool.or_eq_false_iff] at hxs
        refine ⟨⟨x, hx, hxk, hxs.1⟩, fun e' => ?_⟩
        subst e'
        have : x = e := entry_eq_of_key hst.2.2 hx hmem.1 (hxk.trans hek.symm)
        subst this
        simp at hxs
    · have g := grownBy_setBlock w1 r (.mapIter (some b) since (seen.push e.born) clock)
      rcases hw1 with rfl | rfl
      · exact g
      · exact ⟨g.os, g.tape, g.output, g.size, g.block⟩
    · rcases hw1 with rfl | rfl <;> simp [setBlock]
    · have := run_entry_at (P := P) _ r b since seen es clock e hset.1 hbb hmem.1 hst.2.1
      rw [hek] at this
      exact this
end
end Go.Proofs.YtahklchfchjmcaaDoor
