/- hash.Sum32 and Stripe. -/
import Derived.Test.YtecnchmcdbcofaaGreatDoorUb
set_option linter.unusedVariables false
set_option linter.unusedSimpArgs false
namespace Go.Proofs.YtecnchmcdbcofaaGreatDoor
open Go.RowKit Go.MapKept
/-- A string's bytes in a new slice. -/
structure Bytes (W : World) (p : Nat) (s : ByteArray) : Prop where
  lt : p < W.heap.size
  cell : ∀ i x, s.data.toList[i]? = some x → W.cell? ⟨p, i, none⟩ = some (.int .u8 (x.toNat : Int))
theorem Bytes.below {W W' : World} {p : Nat} {s : ByteArray} (h : Bytes W p s) (hb : Below W.heap.size W W') : Bytes W' p s :=
  ⟨Nat.lt_of_lt_of_le h.lt hb.size, fun i x hx => (hb.cell h.lt).trans (h.cell i x hx)⟩
theorem bytes_conv (w : World) (s : ByteArray) : ∃ W c, (convert 9 31 (.string s)).run Tryz.prog w = .ok (.slice (some ⟨w.heap.size, 0, none⟩) s.size c) W ∧ Below w.heap.size w W ∧ Bytes W w.heap.size s := by
  refine ⟨_, _, run_bytes_of_string w 9 31 5 s (by kernel_rfl) (by kernel_rfl) (by kernel_rfl), ?_, ?_, ?_⟩
  · exact (Below.refl _ w).drew.alloc (Nat.le_refl _) _
  · simp
  · intro i x hx
    have hi : i < s.data.toList.length := (List.getElem?_eq_some_iff.1 hx).1
    have hi' : i < s.data.size := by simpa using hi
    have hxe : s.data[i] = x := by
      have h := (List.getElem?_eq_some_iff.1 hx).2
      simpa using h
    have hnew : ∀ (v : World) (c : Array Value) (t : TypeId) (f : Nat × Nat), (v.alloc (.cells c t f)).cell? ⟨v.heap.size, i, none⟩ = c[i]? := by
      intro v c t f
      have hh : (v.alloc (.cells c t f)).heap[v.heap.size]? = some (.cells c t f) := by
        show (v.heap.push _)[v.heap.size]? = _
        simp
      unfold World.cell?
      dsimp only
      rw [hh]
      rfl
    refine (hnew w.drew _ _ _).trans ?_
    unfold bytesRow
    rw [Array.getElem?_append_left (by simpa using hi'), Array.getElem?_map, Array.getElem?_eq_getElem hi', hxe]
    rfl
theorem Env.hash {w : World} (h : Env w) : w.cell? ⟨0, 0, none⟩ = some (.int .u32 2166136261) ∧ w.cell? ⟨0, 1, none⟩ = some (.int .u32 16777619) := by
  obtain ⟨m, hv, _⟩ := h
  obtain ⟨_, arr, ty, fr, rest, h2, h3⟩ := hv (0, [.int .u32 2166136261, .int .u32 16777619]) (by simp [vars])
  have h2 : w.heap[0]? = some (.cells arr ty fr) := h2
  have h3 : arr.toList = [Value.int .u32 2166136261, .int .u32 16777619] ++ rest := h3
  have key : ∀ i, w.cell? ⟨0, i, none⟩ = arr.toList[i]? := fun i => by
    unfold World.cell?
    dsimp only
    rw [h2]
    simp
  exact ⟨by rw [key, h3]; rfl, by rw [key, h3]; rfl⟩
def stepH (n : Int) (x : UInt8) : Int := bits BinOp.xor IntKind.u32 n (x.toNat : Int) * 16777619 % 4294967296
def sumH : List UInt8 → Int → Int
  | [], n => n
  | x :: l, n => sumH l (stepH n x)
set_option maxRecDepth 100000 in
set_option maxHeartbeats 1000000 in
theorem sum32_any (s : ByteArray) (hs : s.size ≤ 100000) (w : World) (hE : Env w) : Calls Tryz.prog 13 #[.string s] w fun e w' => e = .returned (.int .u32 (sumH s.data.toList 2166136261)) ∧ Below w.heap.size w w' := by
  obtain ⟨g0, g1⟩ := hE.hash
  obtain ⟨W, c, hcv, hB, hBy⟩ := bytes_conv w s
  have HB := Lib.hid hB
  have HY := Lib.hid hBy
  clear hE
  have G1 := Lib.hid (cell_below hB g1)
  clear hB hBy
  obtain ⟨N, hN⟩ : ∃ N, s.size = N := ⟨_, rfl⟩
  have HL : Hid (s.data.toList.length = N) := Lib.hid (by rw [← hN]; exact (Lib.size_eq s).symm)
  rw [hN] at hcv hs
  go_enter Tryz.func13, Tryz.ntmps13
  go_wp2
  go_loopg [3, 11] N (fun gf s3 s11 wx => ∃ (k : Nat) (n : Int), s11 = .int .i64 (k : Int) ∧ s3 = .int .u32 n ∧ k + gf = N ∧ Below W.heap.size W wx ∧ sumH (s.data.toList.drop k) n = sumH s.data.toList 2166136261)
  case atStart => exact ⟨0, _, rfl, rfl, by omega, Below.refl _ _, rfl⟩
  case round =>
    obtain ⟨k, n, rfl, rfl, hk, hbw, hsum⟩ := hrel
    have HW := Lib.hid hbw
    have HSM := Lib.hid hsum
    have g1 := cell_below hbw G1.out
    clear hsum
    by_cases hlt : k < N
    · obtain ⟨g', rfl⟩ : ∃ g', gk = g' + 1 := ⟨gk - 1, by omega⟩
      have hkL : k < s.data.toList.length := by rw [HL.out]; exact hlt
      have hx0 : s.data.toList[k]? = some s.data.toList[k] := List.getElem?_eq_getElem hkL
      have hdr : s.data.toList.drop k = s.data.toList[k] :: s.data.toList.drop (k + 1) := List.drop_eq_getElem_cons hkL
      generalize s.data.toList[k] = x at hx0 hdr
      have hcell := (HY.out.below hbw).cell k x hx0
      have HX := Lib.hid hx0
      have HD := Lib.hid hdr
      clear hx0 hdr hbw
      have hx256 : x.toNat < 256 := x.toNat_lt
      go_wp2
      go_roundg g'
      case measure => omega
      case rel =>
        exact ⟨k + 1, _, by go_num, rfl, by omega, HW.out, by rw [← HSM.out, HD.out]; rfl⟩
    · have e : k = N := by omega
      subst e
      have HE : Hid (n = sumH s.data.toList 2166136261) := Lib.hid (by rw [← HSM.out, List.drop_eq_nil_of_le (by rw [HL.out]; exact Nat.le_refl _)]; rfl)
      clear hbw
      go_wp2
      go_ret
      exact ⟨by rw [HE.out]; rfl, nbl_step HB.out HW.out⟩
theorem sumH_bound : ∀ (l : List UInt8) (n : Int), (0 ≤ n ∧ n < 4294967296) → 0 ≤ sumH l n ∧ sumH l n < 4294967296
  | [], n, h => h
  | x :: l, n, h => sumH_bound l _ (by unfold stepH; omega)
/-- a string's stripe -/
def stripeF (s : ByteArray) (m : Int) : Int := sumH s.data.toList 2166136261 % m
set_option maxRecDepth 100000 in
set_option maxHeartbeats 1000000 in
theorem stripe_any (s : ByteArray) (hs : s.size ≤ 100000) (m : Int) (h1 : 1 ≤ m) (h2 : m ≤ 1024) (w : World) (hE : Env w) : Calls Tryz.prog 57 #[.string s, .int .i64 m] w fun e w' => e = .returned (.tuple #[.int .i64 (stripeF s m), .int .i64 0]) ∧ Below w.heap.size w w' := by
  have HS := Lib.hid (sum32_any s hs w hE)
  have HF : Hid (stripeF s m = sumH s.data.toList 2166136261 % m) := rfl
  have hb := sumH_bound s.data.toList 2166136261 (by omega)
  generalize sumH s.data.toList 2166136261 = n at *
  have d1 : decide (m < 1) = false := decide_eq_false (by omega)
  have d2 : decide ((1024 : Int) < m) = false := decide_eq_false (by omega)
  have hm0 : ¬ m = 0 := by omega
  clear hE
  go_enter Tryz.func57, Tryz.ntmps57
  go_wp2_with (first | (go_at_call 13; refine HS.out.mono ?_; rintro e w' ⟨rfl, hB⟩; have HB := Lib.hid hB; clear hB))
  go_ret2
  have q1 := Int.emod_nonneg n hm0
  have q2 := Int.emod_lt_of_pos n (show 0 < m by omega)
  refine ⟨?_, HB.out⟩
  show Ending.returned (.tuple #[.int .i64 (wrap64 (n % m)), .int .i64 0]) = _
  rw [Go.IntWalk.wrap64_in _ ⟨by omega, by omega⟩, HF.out]
set_option maxRecDepth 100000 in
theorem stripe_bad (s : ByteArray) (m : Int) (h : m < 1 ∨ 1024 < m) (w : World) : Calls Tryz.prog 57 #[.string s, .int .i64 m] w fun e w' => e = .returned (.tuple #[.int .i64 0, .int .i64 2]) ∧ w' = w := by
  by_cases h1 : m < 1
  · have d1 : decide (m < 1) = true := decide_eq_true h1
    clear h
    go_enter Tryz.func57, Tryz.ntmps57
    go_wp2
    go_ret2
    exact ⟨rfl, rfl⟩
  · have d1 : decide (m < 1) = false := decide_eq_false h1
    have d2 : decide ((1024 : Int) < m) = true := decide_eq_true (by omega)
    clear h
    go_enter Tryz.func57, Tryz.ntmps57
    go_wp2
    go_ret2
    exact ⟨rfl, rfl⟩
end Go.Proofs.YtecnchmcdbcofaaGreatDoor
