/- Functions that lay memory and whose contracts are known: what is asked of them. -/
import Derived.Test.YtgjbnebmcmoilaaGreatDoorAxg
import Derived.Maps.Own
import Derived.Lib.SlKeysI
set_option linter.unusedVariables false
set_option linter.unusedSimpArgs false
namespace Go.Proofs.YtgjbnebmcmoilaaGreatDoor.Ax
noncomputable section
open Go.RowKit

section
variable {P : Program} {G : Gv} {E : Ev} {w w' : World} {σ : St} {lo ng : Nat}

theorem Inv.below (h : Inv E σ ng w) (hb : Below w.heap.size w w') : Inv E σ ng w' :=
  ⟨fun i o hi => (h.heap i o hi).congr fun hl b n he => hb.block b (h.blk_lt hi hl he), h.inj, h.fresh, h.glob, fun i b n hi => Nat.lt_of_lt_of_le (h.bnd i b n hi) hb.size⟩
/-- a call that lays a block of cells, and lets all that was there as it was -/
theorem fresh_post (hI : Inv E σ ng w) (hlo : lo ≤ σ.nx) (hb : Below w.heap.size w w') {g : Nat} {cur : Array Value} {ty : TypeId} {cs : List Value} (hg : w.heap.size ≤ g) (hw : w'.heap[g]? = some (.cells cur ty (0, 0))) (hl : cs.length ≤ cur.size) (hv : VRs E cs (cur.toList.take cs.length)) :
    Inv (E.ext σ.nx g cur.size) (put σ (.cells cs true)) ng w' ∧ Stp E lo σ.nx w (E.ext σ.nx g cur.size) w' ∧ AStp lo σ (put σ (.cells cs true)) := by
  have hle := Ev.ext_le (b := g) (n := cur.size) (hI.fresh σ.nx (Nat.le_refl _))
  have hI' := hI.below hb
  have hlt : g < w'.heap.size := (Array.getElem?_eq_some_iff.1 hw).1
  refine ⟨hI'.adopt (fun i m hi => ?_) hlt ⟨g, cur.size, cur, ty, (0, 0), Ev.ext_here _ _ _ _, hw, rfl, fun _ => rfl, hl, hv.mono hle⟩, ⟨hle, fun i b n hi => ?_, hb.size, hb.os, hb.tape, hb.output, fun b hb' _ => hb.block b hb'⟩, ⟨by simp [put], fun i hi => ?_⟩⟩
  · have := hI.bnd i g m hi
    omega
  · by_cases e : i = σ.nx
    · subst e
      rw [Ev.ext_here] at hi
      injection hi with hi; injection hi with hi _
      exact .inr ⟨Nat.le_refl _, .inl (by omega)⟩
    · have : (E.ext σ.nx g cur.size).blk i = E.blk i := by simp [Ev.ext, e]
      rw [this] at hi
      exact .inl hi
  · simp only [put, Tr.get_set]
    simp [show i ≠ σ.nx by omega]

/-! ## keys, sorted -/
theorem insI_perm (n : Int) : ∀ l, (insI n l).Perm (n :: l)
  | [] => .refl _
  | m :: l => by
    rw [insI]
    split
    · exact .refl _
    · exact ((insI_perm n l).cons m).trans (.swap n m l)
theorem sortI_perm : ∀ l, (sortI l).Perm l
  | [] => .refl _
  | n :: l => (insI_perm n (sortI l)).trans ((sortI_perm l).cons n)
theorem insI_sorted {n : Int} : ∀ {l : List Int}, l.Pairwise (· ≤ ·) → (insI n l).Pairwise (· ≤ ·)
  | [], _ => by simp [insI]
  | m :: l, h => by
    rw [List.pairwise_cons] at h
    rw [insI]
    split
    · rename_i hd
      have hd : n ≤ m := by simpa using hd
      rw [List.pairwise_cons, List.pairwise_cons]
      refine ⟨fun x hx => ?_, h⟩
      rcases List.mem_cons.1 hx with rfl | hx
      · exact hd
      · exact Int.le_trans hd (h.1 x hx)
    · rename_i hd
      have hd : ¬ n ≤ m := by simpa using hd
      rw [List.pairwise_cons]
      refine ⟨fun x hx => ?_, insI_sorted h.2⟩
      rcases List.mem_cons.1 ((insI_perm n l).mem_iff.1 hx) with rfl | hx
      · omega
      · exact h.1 x hx
theorem sortI_sorted : ∀ l, (sortI l).Pairwise (· ≤ ·)
  | [] => List.Pairwise.nil
  | n :: l => insI_sorted (sortI_sorted l)
theorem sortI_merge {l ss : List Int} (h : ss.Perm l) : ss.mergeSort (fun x y => decide (x ≤ y)) = sortI l := by
  have h1 := mergeSort_of_perm_i (h.trans (sortI_perm l).symm)
  rw [h1]
  exact List.mergeSort_of_pairwise ((sortI_sorted l).imp fun h => by simpa using h)

theorem keysI_spec : ∀ {l : List ME} {l' : List MapEntry} {ks : List Int}, MEs E l l' → keysI l = some ks → l'.map (·.key) = ks.map encZ ∧ ∀ n ∈ ks, (Lit.int .i64 n).wf = true
  | _, _, _, .nil, h => by injection h with h; subst h; simp
  | _, _, ks, .cons k v k' v' b l l' hk hv hs, h => by
    cases hk <;> first | (cases h; done) | skip
    rename_i kk n
    cases kk <;> first | (cases h; done) | skip
    rw [keysI] at h
    split at h
    · rename_i h1 h2
      simp only [Option.bind_eq_some_iff, Option.some.injEq] at h
      obtain ⟨r, h3, rfl⟩ := h
      obtain ⟨h4, h5⟩ := keysI_spec hs h3
      refine ⟨by simp [h4, encZ], fun m hm => ?_⟩
      rcases List.mem_cons.1 hm with rfl | hm
      · have h1 : -9223372036854775808 ≤ m := by simpa using h1
        have h2 : m ≤ 9223372036854775807 := by simpa using h2
        show (decide (IntKind.i64.min ≤ m) && decide (m ≤ IntKind.i64.max)) = true
        have e1 : (IntKind.i64.min : Int) = -9223372036854775808 := rfl
        have e2 : (IntKind.i64.max : Int) = 9223372036854775807 := rfl
        rw [e1, e2]
        simp [h1, h2]
      · exact h5 m hm
    · cases h
theorem freeB_spec {b : Nat} : ∀ {l : List ME} {l' : List MapEntry}, MEs E l l' → freeB b l = true → ∀ x ∈ l', x.born ≠ b
  | _, _, .nil, _, x, hx => by cases hx
  | _, _, .cons k v k' v' c l l' hk hv hs, h, x, hx => by
    simp only [freeB, Bool.and_eq_true] at h
    rcases List.mem_cons.1 hx with rfl | hx
    · intro e
      have h1 := h.1
      have : Nat.beq c b = true := by rw [show c = b from e]; exact Nat.beq_refl b
      rw [this] at h1
      cases h1
    · exact freeB_spec hs h.2 x hx
theorem okE_spec {c : Nat} : ∀ {l : List ME} {l' : List MapEntry}, MEs E l l' → okE c l = true → (∀ x ∈ l', x.born < c) ∧ (l'.map (·.born)).Nodup
  | _, _, .nil, _ => ⟨(fun x hx => by cases hx), List.Pairwise.nil⟩
  | _, _, .cons k v k' v' b l l' hk hv hs, h => by
    simp only [okE, Bool.and_eq_true] at h
    obtain ⟨⟨h1, h2⟩, h3⟩ := h
    obtain ⟨g1, g2⟩ := okE_spec hs h3
    have h1 : b < c := by simpa using h1
    refine ⟨fun x hx => ?_, ?_⟩
    · rcases List.mem_cons.1 hx with rfl | hx
      · exact h1
      · exact g1 x hx
    · rw [List.map_cons, List.nodup_cons]
      refine ⟨fun hm => ?_, g2⟩
      obtain ⟨x, hx, e⟩ := List.mem_map.1 hm
      exact freeB_spec hs h2 x hx e
theorem freeI_spec {n : Int} : ∀ {l : List Int}, freeI n l = true → n ∉ l
  | [], _ => by simp
  | m :: l, h => by
    simp only [freeI, Bool.and_eq_true] at h
    intro hm
    rcases List.mem_cons.1 hm with rfl | hm
    · have := h.1; simp at this
    · exact freeI_spec h.2 hm
theorem apartI_spec : ∀ {l : List Int}, apartI l = true → l.Nodup
  | [], _ => List.Pairwise.nil
  | n :: l, h => by
    simp only [apartI, Bool.and_eq_true] at h
    exact List.nodup_cons.2 ⟨freeI_spec h.1, apartI_spec h.2⟩
theorem insert_perm {H : Type} (x : Lit × DataW H) : ∀ l, (DataW.insert x l).Perm (x :: l)
  | [] => .refl _
  | y :: l => by
    rw [DataW.insert]
    split
    · exact .refl _
    · exact ((insert_perm x l).cons y).trans (.swap x y l)
theorem foldr_insert_perm {H : Type} : ∀ l : List (Lit × DataW H), (l.foldr DataW.insert []).Perm l
  | [] => .refl _
  | x :: l => (insert_perm x _).trans ((foldr_insert_perm l).cons x)
/-- such a map, as the shelf's laws ask for it -/
theorem owns_of {k : TypeId} (hk : P.underlying k = some (.int .i64)) {rb c : Nat} {es : List ME} {es' : Array MapEntry} {ks : List Int} (hw : w.heap[rb]? = some (.map es' c)) (hm : MEs E es es'.toList) (h1 : keysI es = some ks) (h2 : okE c es = true) (h3 : apartI ks = true) (h4 : ks.length ≤ 4294967296) :
    ∃ D0 : DataW Unit, w.ownsMap P k (fun _ => some (.nil, [])) rb ks.length D0 ∧ Maps.size D0 = ks.length ∧ (intKeys D0).Perm ks := by
  obtain ⟨k1, k2⟩ := keysI_spec hm h1
  obtain ⟨s1, s2⟩ := okE_spec hm h2
  have hlen : es'.size = ks.length := by
    have := congrArg List.length k1
    simpa using this
  have hread : ∀ x ∈ es'.toList, ∃ n ∈ ks, x.key = encZ n ∧ WideElems.rd (H := Unit) P k (fun _ => some (.nil, [])) x = some (.int .i64 n, .nil) := fun x hx => by
    have : x.key ∈ es'.toList.map (·.key) := List.mem_map.2 ⟨x, hx, rfl⟩
    rw [k1] at this
    obtain ⟨n, hn, e⟩ := List.mem_map.1 this
    refine ⟨n, hn, e.symm, ?_⟩
    unfold WideElems.rd
    rw [← e, show encZ n = .int .i64 n from rfl, Maps.keyOf_int_mk hk (k2 n hn)]
    rfl
  refine ⟨_, ⟨es', c, hw, ⟨?_, ⟨s1, s2, ?_⟩, fun x hx => ?_⟩, by omega, rfl⟩, ?_, ?_⟩
  · have : (4294967296 : Nat) ≤ maxLen := by decide
    omega
  · rw [k1]
    exact (apartI_spec h3).map (f := encZ) (fun a b hab e => hab (encZ_inj e))
  · obtain ⟨n, _, _, h⟩ := hread x hx
    exact ⟨_, h⟩
  · rw [Maps.size_eq, (foldr_insert_perm _).length_eq]
    simp [hlen]
  · unfold intKeys
    refine ((foldr_insert_perm _).map _).trans ?_
    rw [List.map_map]
    have : es'.toList.map ((fun p : Lit × DataW Unit => intOf p.1) ∘ WideElems.rg P k fun _ => some (.nil, [])) = ks := by
      have hinj : (es'.toList.map ((fun p : Lit × DataW Unit => intOf p.1) ∘ WideElems.rg P k fun _ => some (.nil, []))).map encZ = ks.map encZ := by
        rw [← k1, List.map_map]
        apply List.map_congr_left
        intro x hx
        obtain ⟨n, _, e, h⟩ := hread x hx
        simp only [Function.comp, WideElems.rg, h, Option.getD_some, intOf]
        exact e.symm
      have : ∀ {a b : List Int}, a.map encZ = b.map encZ → a = b := fun {a} => by
        induction a with
        | nil => intro b h; cases b <;> simp_all
        | cons x a ih =>
          intro b h
          cases b with
          | nil => simp at h
          | cons y b =>
            simp only [List.map_cons, List.cons.injEq] at h
            rw [encZ_inj h.1, ih h.2]
      exact this hinj
    rw [this]
/-- slices.Sorted(maps.Keys(m)): from the shelf's word to the evaluator's -/
theorem sorted_post (hI : Inv E σ ng w) (hlo : lo ≤ σ.nx) {e : TypeId} {ks ss : List Int} {v' : Value} {n : Int} {l : List Int} (hp : ss.Perm ks) (hs : sortI ks = n :: l)
    (hr : w'.ownsRow w.heap.size e 1 v' ss.length ((ss.mergeSort (fun x y => decide (x ≤ y))).map encZ)) (hb : Below w.heap.size w w') :
    ∃ E', VR E' (.slice (some ⟨σ.nx, 0, some 1⟩) (l.length + 1) (l.length + 1)) v' ∧ Inv E' (put σ (.cells (.int .i64 n :: l.map fun m => .int .i64 m) true)) ng w' ∧ Stp E lo σ.nx w E' w' ∧ AStp lo σ (put σ (.cells (.int .i64 n :: l.map fun m => .int .i64 m) true)) := by
  rw [sortI_merge hp, hs] at hr
  obtain ⟨h1, h2⟩ := hr
  have hlen : ss.length = l.length + 1 := by simpa using h1.symm
  rcases h2 with ⟨_, h0⟩ | ⟨g, cap, cur, rfl, hg, hw, hc1, hc2, hsz, htk⟩
  · omega
  · have hcs : (Value.int .i64 n :: l.map fun m => Value.int .i64 m) = (n :: l).map encZ := rfl
    rw [hlen] at htk
    have hf := fresh_post (lo := lo) (cs := .int .i64 n :: l.map fun m => .int .i64 m) hI hlo hb hg hw (by rw [hsz]; simp; omega) (by
      rw [hcs]
      have : ((n :: l).map encZ).length = (l.length + 1) * 1 := by simp
      rw [this, htk]
      generalize n :: l = ks
      induction ks with
      | nil => exact .nil
      | cons a ks ih => exact .cons _ _ _ _ (.int _ _) ih)
    refine ⟨_, ?_, hf⟩
    rw [hlen]
    refine .sli _ _ _ _ _ _ _ _ (Ev.ext_here _ _ _ _) (by omega) ?_
    rw [hsz]; omega
end
end
end Go.Proofs.YtgjbnebmcmoilaaGreatDoor.Ax
