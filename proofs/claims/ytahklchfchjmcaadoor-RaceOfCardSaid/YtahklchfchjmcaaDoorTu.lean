/- Clone, Delete, and what the teller's unlock stores. -/
import Derived.Test.YtahklchfchjmcaaDoorTk
import Derived.Lib.EndianMore
import Derived.Deep.Upon
namespace Go.Proofs.YtahklchfchjmcaaDoor
set_option linter.unusedVariables false
set_option linter.unusedSimpArgs false
open Go.RowKit Go.MapKept

theorem least_at : ∀ (l : List Int) (x : Int), x ∈ l → ∃ k, k < l.length ∧ l.getD k 0 = x ∧ ∀ j, j < k → l.getD j 0 ≠ x
  | [], x, h => (nomatch h)
  | a :: l, x, h => by
    by_cases e : a = x
    · exact ⟨0, by simp, by simp [e], fun j hj => absurd hj (by omega)⟩
    · have hx : x ∈ l := by
        rcases List.mem_cons.1 h with h | h
        · exact absurd h.symm e
        · exact h
      obtain ⟨k, hk, hk1, hk2⟩ := least_at l x hx
      refine ⟨k + 1, by simp; omega, by simpa using hk1, fun j hj => ?_⟩
      cases j with
      | zero => simpa using e
      | succ j => simpa using hk2 j (by omega)

theorem idx_found {l : List Int} {x : Int} (h : x ∈ l) : ∃ i : Nat, Lib.idxOf l x = i ∧ i < l.length ∧ l[i]? = some x := by
  obtain ⟨k, hk, hk1, hk2⟩ := least_at l x h
  refine ⟨k, ?_, hk, ?_⟩
  · have := Lib.idxOf_hit l l.length k x hk (Nat.le_refl _) hk1 hk2
    rwa [List.take_length] at this
  · rw [List.getElem?_eq_getElem hk]
    rw [← hk1]
    simp [List.getD, hk]
theorem idx_none {l : List Int} {x : Int} (h : ¬ x ∈ l) : Lib.idxOf l x = -1 := by
  have := Lib.idxOf_miss l l.length x fun j hj e => h (by
    rw [← e]
    simp [List.getD, hj])
  rwa [List.take_length] at this

theorem setCells_block (g : Nat) (e : TypeId) (fr : Nat × Nat) : ∀ (vs : List Value) (o : Nat) (w : World) (cur : Array Value), w.heap[g]? = some (Obj.cells cur e fr) → o + vs.length ≤ cur.size →
    ∃ cur', (w.setCells g o vs).heap[g]? = some (Obj.cells cur' e fr) ∧ cur'.size = cur.size ∧ cur'.toList = cur.toList.take o ++ vs ++ cur.toList.drop (o + vs.length)
  | [], o, w, cur, h, ho => ⟨cur, h, rfl, by simp⟩
  | v :: vs, o, w, cur, h, ho => by
    have h1 : (w.setCell ⟨g, o, none⟩ v).heap[g]? = some (Obj.cells (cur.setIfInBounds o v) e fr) := by simp [World.setCell, Array.getElem?_modify, h]
    simp only [List.length_cons] at ho
    obtain ⟨cur', h2, h3, h4⟩ := setCells_block g e fr vs (o + 1) _ _ h1 (by simp; omega)
    refine ⟨cur', h2, by simpa using h3, ?_⟩
    rw [h4]
    have ho' : o < cur.toList.length := by simp; omega
    simp only [Array.toList_setIfInBounds, List.length_cons]
    rw [List.take_set, List.drop_set_of_lt (by omega)]
    rw [List.take_add_one, List.getElem?_eq_getElem ho']
    have e1 : (List.take o cur.toList).length = o := by rw [List.length_take]; omega
    have : (List.take o cur.toList ++ (some cur.toList[o]).toList).set o v = List.take o cur.toList ++ [v] := by
      rw [List.set_append_right _ _ (by omega)]
      simp [e1]
    rw [this]
    have e2 : o + 1 + vs.length = o + (vs.length + 1) := by omega
    rw [e2]
    simp

/-- slices.Clone of ints. -/
theorem clone_any (w : World) (v : Value) (l : List Int) (h : SlAt 1 intCells w v l) (h0 : 0 < l.length) (hbig : l.length ≤ 1000000) :
    Calls Tryd.prog 106 #[v] w fun e w' => ∃ g cap, e = .returned (.slice (some ⟨g, 0, none⟩) l.length cap) ∧ w'.ownsRow w.heap.size 3 1 (.slice (some ⟨g, 0, none⟩) l.length cap) l.length (l.map (Value.int .i64)) ∧ Below w.heap.size w w' := by
  obtain ⟨A, cap, rfl, hcap, hcm, hc⟩ := h
  obtain ⟨b, off, rfl, h1⟩ := hc h0
  refine (Tryd.slices_Clone_int b off l.length cap l w (Nat.le_refl _) (by omega) fun j hj => ?_).mono ?_
  · have := h1 j hj 0 _ rfl
    rw [Nat.add_zero, Nat.mul_one] at this
    rw [this]
    simp [List.getD, hj]
  · rintro e w' ⟨v', rfl, ho, hne, hb⟩
    rw [List.take_length] at ho
    rcases id ho.2 with ⟨rfl, _⟩ | ⟨g, cap', cur, rfl, _⟩
    · exact absurd rfl hne
    · exact ⟨g, cap', rfl, ho, hb⟩

/-- slices.Delete of one int of an owned slice. -/
theorem delete_any (w : World) (B g cap : Nat) (l : List Int) (i : Nat) (h : w.ownsRow B 3 1 (.slice (some ⟨g, 0, none⟩) l.length cap) l.length (l.map (Value.int .i64))) (hi : i < l.length) :
    Calls Tryd.prog 105 #[.slice (some ⟨g, 0, none⟩) l.length cap, .int .i64 i, .int .i64 ((i : Int) + 1)] w fun e w' => e = .returned (.slice (some ⟨g, 0, none⟩) (l.length - 1) cap) ∧
      w'.ownsRow B 3 1 (.slice (some ⟨g, 0, none⟩) (l.length - 1) cap) (l.length - 1) ((l.take i ++ l.drop (i + 1)).map (Value.int .i64)) ∧ w.grownBy w' (some g) := by
  have ei : ((i : Int) + 1) = ((i + 1 : Nat) : Int) := by omega
  rw [ei]
  rcases id h.2 with ⟨h', _⟩ | ⟨g', cap', cur, hv, hB, hb, hn, hm, hs, ht⟩
  · cases h'
  · injection hv with e1 e2 e3
    injection e1 with e1
    injection e1 with e1
    subst e1; subst e3
    rw [Nat.mul_one] at hs ht
    have hcell : ∀ j, j < l.length → w.cell? ⟨g, 0 + j, none⟩ = some (.int .i64 (l.getD j 0)) := fun j hj => by
      have h1 : (cur.toList.take l.length)[j]? = (l.map (Value.int .i64))[j]? := by rw [ht]
      rw [List.getElem?_take_of_lt hj, Array.getElem?_toList] at h1
      simp only [World.cell?, hb, Nat.zero_add]
      rw [h1]
      simp [List.getD, hj]
    refine (Tryd.slices_Delete_int_cells g 0 l.length cap i (i + 1) l w (Nat.le_refl _) hn (by simpa [maxLen] using hm) (by omega) (by omega) hcell fun j hj => by simp [World.frozen?, hb]).mono ?_
    rintro e w' ⟨rfl, q, rfl⟩
    rw [List.take_length]
    have ed : l.length - (i + 1 - i) = l.length - 1 := by omega
    rw [ed]
    have hlen : (l.take i ++ l.drop (i + 1) ++ List.replicate (i + 1 - i) 0).length = l.length := by simp; omega
    obtain ⟨cur', hb', hs', ht'⟩ := setCells_block g 3 (0, 0) ((l.take i ++ l.drop (i + 1) ++ List.replicate (i + 1 - i) 0).map (Value.int .i64)) 0 (w.drewN q) cur hb (by rw [List.length_map, hlen]; omega)
    refine ⟨rfl, ⟨by simp; omega, .inr ⟨g, cap, cur', rfl, hB, hb', by omega, hm, by omega, ?_⟩⟩, ?_⟩
    · rw [ht', Nat.mul_one]
      simp only [List.take_zero, List.nil_append, List.map_append]
      rw [List.append_assoc, List.append_assoc, ← List.append_assoc, List.take_append_of_le_length (by simp; omega), List.take_of_length_le (by simp; omega)]
    · refine ⟨?_, ?_, ?_, ?_, ?_⟩
      · rw [World.os_setCells]; rfl
      · exact (Lib.below_setCells_w (Nat.zero_le g) _ 0 (w.drewN q)).tape
      · rw [World.output_setCells]; rfl
      · exact (Lib.below_setCells_w (Nat.zero_le g) _ 0 (w.drewN q)).size
      · intro k hk hne
        exact (World.heap_setCells_other (w.drewN q) g 0 _ hk (fun e => hne (by rw [e]))).trans rfl

section
variable {w w' W : World} {B p bh : Nat} {S : Int → Option Value} {H : Int → List Int} {stripes : Int} {vo : Value} {out : List Acc}

theorem own_mono {B' e sz n : Nat} {v : Value} {xs : List Value} (h : w.ownsRow B' e sz v n xs) (hB : B ≤ B') : w.ownsRow B e sz v n xs := by
  refine ⟨h.1, ?_⟩
  rcases h.2 with h0 | ⟨g, cap, cur, hv, hg, r⟩
  · exact .inl h0
  · exact .inr ⟨g, cap, cur, hv, by omega, r⟩

theorem drop_all (h : Tell W B p bh S H stripes vo out) {x : Int} {l : List Int} {X : Nat} {d : Dd} {gg n cap : Nat} {w1 : World} (hX : W.heap[X]? = some (.cells d.arr 52 (0, 0))) (hn : n = l.length)
    (hg : W.grownBy w1 none) (ho : w1.ownsRow W.heap.size 3 1 (.slice (some ⟨gg, 0, none⟩) n cap) n (l.map (Value.int .i64))) :
    ∃ w', (Instr.mapUpdate 119 (.map (some bh)) (.int .i64 x) (.slice (some ⟨gg, 0, none⟩) n cap)).run Tryd.prog w1 = .ok () w' ∧
      Hid (Tell w' B p bh (upd S x (.slice (some ⟨gg, 0, none⟩) n cap)) (fun y => if y = x then l else H y) stripes vo out ∧ Below B W w' ∧ w'.heap[X]? = some (.cells d.arr 52 (0, 0))) ∧
      w1.cell? ⟨p, 1, none⟩ = some (.map (some bh)) ∧ w1.cell? ⟨X, 0, none⟩ = some (.int .i64 d.task) ∧ w'.cell? ⟨p, 1, none⟩ = some (.map (some bh)) ∧ w'.cell? ⟨X, 0, none⟩ = some (.int .i64 d.task) ∧ w'.cell? ⟨X, 2, none⟩ = some (.int .i64 d.stripe) ∧ w'.cell? ⟨X, 4, none⟩ = some (.int .i64 d.next) := by
  subst hn
  have hm1 : MapAt ienc w1 bh S := h.gm.map.grown hg (by simp)
  obtain ⟨w', hrun, hm, hg2, _⟩ := hm1.update ikey mapTy_held x (.slice (some ⟨gg, 0, none⟩) l.length cap)
  have ho' : w1.ownsRow B 3 1 (.slice (some ⟨gg, 0, none⟩) l.length cap) l.length (l.flatMap intCells) := by
    rw [flat_int]; exact own_mono ho h.hB
  obtain ⟨h1, h2, h3⟩ := h.put (x := x) (l := l) (Below.refl _ _) (.inl rfl) hg ho' (fun g hg' => by
    have := (own_block ho hg').1
    exact .inr this) hm hg2
  obtain ⟨k1, k2⟩ := h3 X _ _ hX (by decide)
  obtain ⟨k3, k4⟩ := h3 p _ _ h.blk (by decide)
  exact ⟨w', hrun, ⟨h1, h2, k2⟩, by simp [World.cell?, k3], by simp [World.cell?, k1, Dd.arr], by simp [World.cell?, k4], by simp [World.cell?, k2, Dd.arr], by simp [World.cell?, k2, Dd.arr], by simp [World.cell?, k2, Dd.arr]⟩
end
end Go.Proofs.YtahklchfchjmcaaDoor
