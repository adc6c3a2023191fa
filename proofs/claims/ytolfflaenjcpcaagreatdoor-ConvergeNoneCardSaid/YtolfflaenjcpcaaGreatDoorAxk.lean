/- slices.Sorted of maps.Keys at strings. -/
import Derived.Test.YtolfflaenjcpcaaGreatDoorAxj
import Derived.Sort.KeysCollected
import Derived.StringKeys
set_option linter.unusedVariables false
set_option linter.unusedSimpArgs false
namespace Go.Proofs.YtolfflaenjcpcaaGreatDoor.Ax
noncomputable section
open Go.RowKit Go.Maps Go.Sort
open Go.Proofs (encStr)

def keysS : List ME → Option (List (List UInt8))
  | [] => some []
  | (.string ⟨⟨s⟩⟩, _, _) :: l => match Nat.ble s.length 4294967296 with
    | true => (keysS l).bind fun r => some (s :: r)
    | false => none
  | _ :: _ => none
def insS (s : List UInt8) : List (List UInt8) → List (List UInt8)
  | [] => [s]
  | m :: l => match decide (s ≤ m) with
    | true => s :: m :: l
    | false => m :: insS s l
def sortS : List (List UInt8) → List (List UInt8)
  | [] => []
  | n :: l => insS n (sortS l)
def freeS (n : List UInt8) : List (List UInt8) → Bool
  | [] => true
  | m :: l => !eqB n m && freeS n l
def apartS : List (List UInt8) → Bool
  | [] => true
  | n :: l => freeS n l && apartS l
def sumS (g : Nat) (σ : St) (args : List Value) : Option (Value × St) :=
  match args with
  | [.func (.func f) ⟨[]⟩ ⟨[.pointer (some ⟨i, 0, none⟩)]⟩] => match Nat.beq f g, rd σ.h i 0 1 with
    | true, some [.map (some r)] => match σ.h.get r with
      | some (.map es c) => (keysS es).bind fun ks => match okE c es, apartS ks with
        | true, true => match Nat.ble ks.length 4294967296, sortS ks with
          | true, n :: l => some (.slice (some ⟨σ.nx, 0, some 1⟩) (l.length + 1) (l.length + 1), put σ (.cells (.string ⟨⟨n⟩⟩ :: l.map fun m => .string ⟨⟨m⟩⟩) true))
          | _, _ => none
        | _, _ => none
      | _ => none
    | _, _ => none
  | _ => none
section
variable {P : Program} {E : Ev} {w w' : World} {σ : St} {ng lo : Nat}
theorem insS_perm (n : List UInt8) : ∀ l, (insS n l).Perm (n :: l)
  | [] => .refl _
  | m :: l => by
    rw [insS]
    split
    · exact .refl _
    · exact ((insS_perm n l).cons m).trans (.swap n m l)
theorem sortS_perm : ∀ l, (sortS l).Perm l
  | [] => .refl _
  | n :: l => (insS_perm n (sortS l)).trans ((sortS_perm l).cons n)
theorem insS_sorted {n : List UInt8} : ∀ {l : List (List UInt8)}, l.Pairwise (· ≤ ·) → (insS n l).Pairwise (· ≤ ·)
  | [], _ => by simp [insS]
  | m :: l, h => by
    rw [List.pairwise_cons] at h
    rw [insS]
    split
    · rename_i hd
      have hd : n ≤ m := of_decide_eq_true hd
      rw [List.pairwise_cons, List.pairwise_cons]
      refine ⟨fun x hx => ?_, h⟩
      rcases List.mem_cons.1 hx with rfl | hx
      · exact hd
      · exact List.le_trans hd (h.1 x hx)
    · rename_i hd
      have hd : ¬ n ≤ m := of_decide_eq_false hd
      rw [List.pairwise_cons]
      refine ⟨fun x hx => ?_, insS_sorted h.2⟩
      rcases List.mem_cons.1 ((insS_perm n l).mem_iff.1 hx) with rfl | hx
      · rcases List.le_total m x with h1 | h1
        · exact h1
        · exact absurd h1 hd
      · exact h.1 x hx
theorem sortS_sorted : ∀ l, (sortS l).Pairwise (· ≤ ·)
  | [] => List.Pairwise.nil
  | n :: l => insS_sorted (sortS_sorted l)
theorem sortS_merge {l ss : List (List UInt8)} (h : ss.Perm l) : ss.mergeSort (fun x y => decide (x ≤ y)) = sortS l := by
  have h1 : ss.mergeSort (fun x y => decide (x ≤ y)) = (sortS l).mergeSort (fun x y => decide (x ≤ y)) := mergeSort_of_perm (h.trans (sortS_perm l).symm)
  rw [h1]
  exact List.mergeSort_of_pairwise ((sortS_sorted l).imp fun h => by simpa using h)
theorem keysS_spec : ∀ {l : List ME} {l' : List MapEntry} {ks : List (List UInt8)}, MEs E l l' → keysS l = some ks → l'.map (·.key) = ks.map encStr ∧ ∀ s ∈ ks, s.length ≤ 4294967296
  | _, _, _, .nil, h => by injection h with h; subst h; simp
  | _, _, ks, .cons k v k' v' b l l' hk hv hs, h => by
    cases hk <;> first | (cases h; done) | skip
    rename_i s
    obtain ⟨⟨s⟩⟩ := s
    rw [keysS] at h
    split at h
    · rename_i h1
      simp only [Option.bind_eq_some_iff, Option.some.injEq] at h
      obtain ⟨r, h3, rfl⟩ := h
      obtain ⟨h4, h5⟩ := keysS_spec hs h3
      refine ⟨by simp [h4, encStr], fun m hm => ?_⟩
      rcases List.mem_cons.1 hm with rfl | hm
      · simpa using h1
      · exact h5 m hm
    · cases h
theorem freeS_spec {n : List UInt8} : ∀ {l : List (List UInt8)}, freeS n l = true → n ∉ l
  | [], _ => by simp
  | m :: l, h => by
    simp only [freeS, Bool.and_eq_true] at h
    intro hm
    rcases List.mem_cons.1 hm with rfl | hm
    · have := h.1; rw [eqB_eq] at this; simp at this
    · exact freeS_spec h.2 hm
theorem apartS_spec : ∀ {l : List (List UInt8)}, apartS l = true → l.Nodup
  | [], _ => List.Pairwise.nil
  | n :: l, h => by
    simp only [apartS, Bool.and_eq_true] at h
    exact List.nodup_cons.2 ⟨freeS_spec h.1, apartS_spec h.2⟩
theorem ownsS_of {k : TypeId} (hk : P.underlying k = some .string) {rb c : Nat} {es : List ME} {es' : Array MapEntry} {ks : List (List UInt8)} (hw : w.heap[rb]? = some (.map es' c)) (hm : MEs E es es'.toList) (h1 : keysS es = some ks) (h2 : okE c es = true) (h3 : apartS ks = true) (h4 : ks.length ≤ 4294967296) :
    ∃ D0 : DataW Unit, w.ownsMap P k (fun _ => some (.nil, [])) rb ks.length D0 ∧ Maps.size D0 = ks.length ∧ (strKeys D0).Perm ks := by
  obtain ⟨k1, k2⟩ := keysS_spec hm h1
  obtain ⟨s1, s2⟩ := okE_spec hm h2
  have hlen : es'.size = ks.length := by
    have := congrArg List.length k1
    simpa using this
  have hread : ∀ x ∈ es'.toList, ∃ n ∈ ks, x.key = encStr n ∧ WideElems.rd (H := Unit) P k (fun _ => some (.nil, [])) x = some (.string n, .nil) := fun x hx => by
    have : x.key ∈ es'.toList.map (·.key) := List.mem_map.2 ⟨x, hx, rfl⟩
    rw [k1] at this
    obtain ⟨n, hn, e⟩ := List.mem_map.1 this
    refine ⟨n, hn, e.symm, ?_⟩
    unfold WideElems.rd
    have hsz : (⟨⟨n⟩⟩ : ByteArray).size ≤ maxLen := by
      have h5 := k2 n hn
      have h6 : (4294967296 : Nat) ≤ maxLen := by decide
      have h7 : (⟨⟨n⟩⟩ : ByteArray).size = n.length := rfl
      omega
    rw [← e, show encStr n = .string ⟨⟨n⟩⟩ from rfl, Go.WideMaps.keyOf_string_mk hk hsz]
    rfl
  refine ⟨_, ⟨es', c, hw, ⟨?_, ⟨s1, s2, ?_⟩, fun x hx => ?_⟩, by omega, rfl⟩, ?_, ?_⟩
  · have : (4294967296 : Nat) ≤ maxLen := by decide
    omega
  · rw [k1]
    exact (apartS_spec h3).map (f := encStr) (fun a b hab e => hab (encStr_inj e))
  · obtain ⟨n, _, _, h⟩ := hread x hx
    exact ⟨_, h⟩
  · rw [Maps.size_eq, (foldr_insert_perm _).length_eq]
    simp [hlen]
  · unfold strKeys
    refine ((foldr_insert_perm _).map _).trans ?_
    rw [List.map_map]
    have : es'.toList.map ((fun p : Lit × DataW Unit => strOf p.1) ∘ WideElems.rg P k fun _ => some (.nil, [])) = ks := by
      have hinj : (es'.toList.map ((fun p : Lit × DataW Unit => strOf p.1) ∘ WideElems.rg P k fun _ => some (.nil, []))).map encStr = ks.map encStr := by
        rw [← k1, List.map_map]
        apply List.map_congr_left
        intro x hx
        obtain ⟨n, _, e, h⟩ := hread x hx
        simp only [Function.comp, WideElems.rg, h, Option.getD_some, strOf]
        exact e.symm
      have : ∀ {a b : List (List UInt8)}, a.map encStr = b.map encStr → a = b := fun {a} => by
        induction a with
        | nil => intro b h; cases b <;> simp_all
        | cons x a ih =>
          intro b h
          cases b with
          | nil => simp at h
          | cons y b =>
            simp only [List.map_cons, List.cons.injEq] at h
            rw [encStr_inj h.1, ih h.2]
      exact this hinj
    rw [this]
/-- slices.Sorted(maps.Keys(m)): from the shelf's word to the evaluator's -/
theorem sortedS_post (hI : Inv E σ ng w) (hlo : lo ≤ σ.nx) {e : TypeId} {ks ss : List (List UInt8)} {v' : Value} {n : List UInt8} {l : List (List UInt8)} (hp : ss.Perm ks) (hs : sortS ks = n :: l)
    (hr : w'.ownsRow w.heap.size e 1 v' ss.length ((ss.mergeSort (fun x y => decide (x ≤ y))).map encStr)) (hb : Below w.heap.size w w') :
    ∃ E', VR E' (.slice (some ⟨σ.nx, 0, some 1⟩) (l.length + 1) (l.length + 1)) v' ∧ Inv E' (put σ (.cells (.string ⟨⟨n⟩⟩ :: l.map fun m => .string ⟨⟨m⟩⟩) true)) ng w' ∧ Stp E lo σ.nx w E' w' ∧ AStp lo σ (put σ (.cells (.string ⟨⟨n⟩⟩ :: l.map fun m => .string ⟨⟨m⟩⟩) true)) := by
  rw [sortS_merge hp, hs] at hr
  obtain ⟨h1, h2⟩ := hr
  have hlen : ss.length = l.length + 1 := by simpa using h1.symm
  rcases h2 with ⟨_, h0⟩ | ⟨g, cap, cur, rfl, hg, hw, hc1, hc2, hsz, htk⟩
  · omega
  · have hcs : (Value.string ⟨⟨n⟩⟩ :: l.map fun m => Value.string ⟨⟨m⟩⟩) = (n :: l).map encStr := rfl
    rw [hlen] at htk
    have hf := fresh_post (lo := lo) (cs := .string ⟨⟨n⟩⟩ :: l.map fun m => .string ⟨⟨m⟩⟩) hI hlo hb hg hw (by rw [hsz]; simp; omega) (by
      rw [hcs]
      have : ((n :: l).map encStr).length = (l.length + 1) * 1 := by simp
      rw [this, htk]
      generalize n :: l = ks
      induction ks with
      | nil => exact .nil
      | cons a ks ih => exact .cons _ _ _ _ (.str _) ih)
    refine ⟨_, ?_, hf⟩
    rw [hlen]
    refine .sli _ _ _ _ _ _ _ _ (Ev.ext_here _ _ _ _) (by omega) ?_
    rw [hsz]; omega
end
end
end Go.Proofs.YtolfflaenjcpcaaGreatDoor.Ax
