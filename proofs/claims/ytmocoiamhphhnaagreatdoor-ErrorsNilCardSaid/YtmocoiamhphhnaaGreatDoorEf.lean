/- Package-level variables; stripes of keys (printed by wip/genE5.py). -/
import Derived.Test.YtmocoiamhphhnaaGreatDoorEe
namespace Go.Proofs.YtmocoiamhphhnaaGreatDoor
set_option linter.unusedVariables false
set_option linter.unusedSimpArgs false
open Go.RowKit Go.MapKept

def partsL : List ByteArray := [⟨#[]⟩, ⟨#[107, 105, 113]⟩, ⟨#[107, 105, 113]⟩, ⟨#[107, 105]⟩, ⟨#[107]⟩, ⟨#[107]⟩, ⟨#[107, 111, 105]⟩, ⟨#[107, 111]⟩, ⟨#[100]⟩, ⟨#[]⟩, ⟨#[]⟩, ⟨#[]⟩]
/-- What the walks ask of package-level variables. -/
structure Env (W : World) : Prop where
  max : MaxIs W
  parts : ∀ i s, partsL[i]? = some s → W.cell? ⟨1, i, none⟩ = some (.string s)
  small0 : W.cell? ⟨5, 0, none⟩ = some (.int .u32 2166136261)
  small1 : W.cell? ⟨5, 1, none⟩ = some (.int .u32 16777619)
theorem Env.later {W W' : World} (h : Env W) (hb : Below W.heap.size W W') : Env W' :=
  ⟨h.max.later hb, fun i s hs => ncell_below hb (h.parts i s hs), ncell_below hb h.small0, ncell_below hb h.small1⟩

def SumOut (e : Ending) : Prop := ∃ n : Int, e = .returned (.int .u32 n)
set_option maxRecDepth 100000 in
set_option maxHeartbeats 1000000 in
theorem sum_any (s : ByteArray) (hs : s.size ≤ 100000) (w : World) (hE : Env w) : Calls Tryz.prog 265 #[.string s] w fun e w' => SumOut e ∧ Below w.heap.size w w' := by
  obtain ⟨W, c, hcv, hB, hBy⟩ := bytes_conv w s
  have HB := Lib.hid hB
  have HY := Lib.hid hBy
  have hm0 := hE.small0
  have HE := Lib.hid (hE.later hB)
  obtain ⟨N, hN⟩ : ∃ N, s.size = N := ⟨_, rfl⟩
  have HL : Hid (s.data.toList.length = N) := Lib.hid (by rw [← hN]; exact (Lib.size_eq s).symm)
  rw [hN] at hcv hs
  clear hB hBy hE
  go_enter Tryz.func265, Tryz.ntmps265
  go_wp2
  go_loopg [3, 11] N (fun gf s3 s11 wx => ∃ (k : Nat) (n : Int), s11 = .int .i64 (k : Int) ∧ s3 = .int .u32 n ∧ k + gf = N ∧ wx = W)
  case atStart => exact ⟨0, _, rfl, rfl, by omega, rfl⟩
  case round =>
    obtain ⟨k, n, rfl, rfl, hk, rfl⟩ := hrel
    by_cases hlt : k < N
    · obtain ⟨g', rfl⟩ : ∃ g', gk = g' + 1 := ⟨gk - 1, by omega⟩
      have hkL : k < s.data.toList.length := by rw [HL.out]; exact hlt
      have hx0 : s.data.toList[k]? = some s.data.toList[k] := List.getElem?_eq_getElem hkL
      generalize s.data.toList[k] = x at hx0
      have hcell := HY.out.cell k x hx0
      have hm1 := HE.out.small1
      clear hx0 hkL
      go_wp2
      go_roundg g'
      case measure => omega
      case rel => exact ⟨k + 1, _, by go_num, rfl, by omega, rfl⟩
    · go_wp2
      go_ret
      exact ⟨⟨n, rfl⟩, HB.out⟩

set_option maxRecDepth 100000 in
set_option maxHeartbeats 1000000 in
theorem stripe_one (s : ByteArray) (hs : s.size ≤ 100000) (w : World) (hE : Env w) : Calls Tryz.prog 211 #[.string s, .int .i64 1] w fun e w' => e = .returned (.tuple #[.int .i64 0, .int .i64 0]) ∧ Below w.heap.size w w' := by
  have HS := Lib.hid (sum_any s hs w hE)
  clear hE
  go_enter Tryz.func211, Tryz.ntmps211
  go_wp2_with fail
  refine HS.out.mono ?_
  rintro e w1 ⟨⟨n, rfl⟩, hb⟩
  have HB := Lib.hid hb
  clear hb
  have hr1 : n.tmod 1 = 0 := Int.tmod_one n
  have hr2 : n % 1 = 0 := Int.emod_one n
  go_wp2
  go_ret2
  exact ⟨rfl, HB.out⟩

end Go.Proofs.YtmocoiamhphhnaaGreatDoor

