/- Plain law: where each access stands between an acquire and a release of one lock by the same task, nothing races. -/
import Derived.Test.YtahklchfchjmcaaDoorKp
namespace Go.Proofs.YtahklchfchjmcaaDoor
set_option linter.unusedVariables false

/-- Each access is, or happens before, a release of the lock; and nothing races. -/
structure LockInv (l : List Acc) : Prop where
  rel : ∀ i a, l[i]? = some a → ∃ r c, (i = r ∨ HB l i r) ∧ l[r]? = some c ∧ c.kind = 4 ∧ c.var = lB
  none : ∀ i k, ¬ Races l i k

theorem LockInv.nil : LockInv [] := ⟨fun i a h => by simp at h, fun i k h => by have := h.lt_len; simp at this⟩

/-- One part: an acquire, accesses, a release. -/
def lockPart (t : Int) (ds : List Acc) : List Acc := ⟨t, 3, lB⟩ :: ds ++ [⟨t, 4, lB⟩]

theorem hb_app {l m : List Acc} {i k : Nat} (h : HB l i k) : HB (l ++ m) i k := by
  refine h.mono fun j hj => ?_
  have := h.lt_len
  rw [List.getElem?_append_left (by omega)]
theorem at_app {l m : List Acc} {i : Nat} {a : Acc} (h : (l ++ m)[i]? = some a) : (i < l.length ∧ l[i]? = some a) ∨ (l.length ≤ i ∧ m[i - l.length]? = some a) := by
  by_cases hi : i < l.length
  · rw [List.getElem?_append_left hi] at h; exact .inl ⟨hi, h⟩
  · rw [List.getElem?_append_right (by omega)] at h; exact .inr ⟨by omega, h⟩

theorem LockInv.part {l : List Acc} (h : LockInv l) (t : Int) (ds : List Acc) (hd : ∀ a ∈ ds, a.task = t) : LockInv (l ++ lockPart t ds) := by
  have htask : ∀ a ∈ lockPart t ds, a.task = t := by
    intro a ha
    unfold lockPart at ha
    rcases List.mem_append.1 ha with ha | ha
    · rcases List.mem_cons.1 ha with rfl | ha
      · rfl
      · exact hd a ha
    · rw [List.mem_singleton.1 ha]
  have hlen : (lockPart t ds).length = ds.length + 2 := by simp [lockPart]
  have h0 : (l ++ lockPart t ds)[l.length]? = some ⟨t, 3, lB⟩ := by
    rw [List.getElem?_append_right (Nat.le_refl _), Nat.sub_self]
    rfl
  have hlast : (l ++ lockPart t ds)[l.length + ds.length + 1]? = some ⟨t, 4, lB⟩ := by
    rw [List.getElem?_append_right (by omega), show l.length + ds.length + 1 - l.length = ds.length + 1 by omega]
    unfold lockPart
    rw [List.getElem?_append_right (by simp)]
    simp
  have htk : ∀ i a, l.length ≤ i → (l ++ lockPart t ds)[i]? = some a → a.task = t := by
    intro i a hi ha
    rcases at_app ha with ⟨h1, _⟩ | ⟨_, h2⟩
    · omega
    · exact htask a (List.mem_of_getElem? h2)
  -- from an old access to one of the part
  have hcross : ∀ i a k b, i < l.length → l[i]? = some a → l.length ≤ k → (l ++ lockPart t ds)[k]? = some b → HB (l ++ lockPart t ds) i k := by
    intro i a k b hi ha hk hb
    obtain ⟨r, c, hr, hc, hk4, hv⟩ := h.rel i a ha
    have hrl : r < l.length := (List.getElem?_eq_some_iff.1 hc).1
    have hc' : (l ++ lockPart t ds)[r]? = some c := by rw [List.getElem?_append_left hrl]; exact hc
    have h1 : HB (l ++ lockPart t ds) r l.length := .base hrl hc' h0 (.inr ⟨hk4, rfl, hv⟩)
    have h2 : HB (l ++ lockPart t ds) i l.length := by
      rcases hr with rfl | hr
      · exact h1
      · exact (hb_app hr).trans h1
    by_cases e : k = l.length
    · subst e; exact h2
    · exact .step h2 (by omega) h0 hb (.inl (htk k b hk hb).symm)
  refine ⟨fun i a ha => ?_, fun i k hr => ?_⟩
  · rcases at_app ha with ⟨h1, h2⟩ | ⟨h1, h2⟩
    · refine ⟨_, _, .inr (hcross i a _ _ h1 h2 (by omega) hlast), hlast, rfl, rfl⟩
    · refine ⟨_, _, ?_, hlast, rfl, rfl⟩
      have hi : i < l.length + (ds.length + 2) := by
        have := (List.getElem?_eq_some_iff.1 ha).1
        rw [List.length_append, hlen] at this
        exact this
      by_cases e : i = l.length + ds.length + 1
      · exact .inl e
      · exact .inr (.base (by omega) ha hlast (.inl (htk i a h1 ha)))
  · obtain ⟨a, b, ha, hb, hik, hne, hv, hda, hdb, hw, hnb⟩ := hr
    rcases at_app hb with ⟨k1, k2⟩ | ⟨k1, k2⟩
    · rcases at_app ha with ⟨i1, i2⟩ | ⟨i1, i2⟩
      · exact h.none i k ⟨a, b, i2, k2, hik, hne, hv, hda, hdb, hw, fun h' => hnb (hb_app h')⟩
      · omega
    · rcases at_app ha with ⟨i1, i2⟩ | ⟨i1, i2⟩
      · exact hnb (hcross i a k b i1 i2 k1 hb)
      · exact hne ((htk i a i1 ha).trans (htk k b k1 hb).symm)

theorem LockInv.check {l : List Acc} (h : LockInv l) : CheckIs l (-1) (-1) := .inl ⟨rfl, rfl, h.none⟩
theorem ok_wrong {l : List Acc} (h : l.all okAcc = true) (hl : l.length ≤ 20000) : wrongF l = 0 := by
  unfold wrongF
  rw [if_neg (by omega), if_pos h]
theorem ok_of {t k : Int} {x : ByteArray} (h1 : 0 ≤ t) (h2 : t ≤ 9999) (h3 : 1 ≤ k) (h4 : k ≤ 4) (h5 : 1 ≤ x.size) (h6 : x.size ≤ 64) : okAcc ⟨t, k, x⟩ = true := by
  unfold okAcc
  simp only [Bool.and_eq_true, decide_eq_true_eq]
  exact ⟨⟨⟨⟨⟨h1, h2⟩, h3⟩, h4⟩, h5⟩, h6⟩
theorem ok_snoc {l : List Acc} {a : Acc} (h : l.all okAcc = true) (ha : okAcc a = true) : (l ++ [a]).all okAcc = true := by
  rw [List.all_append, h]
  simp [ha]
end Go.Proofs.YtahklchfchjmcaaDoor
