/- The net of the examples: what its functions return (runs of the evaluator). -/
import Derived.Test.YtfddpmnbbjofnaaGreatDoorNfa
set_option linter.unusedVariables false
set_option linter.unusedSimpArgs false
namespace Go.Proofs.YtfddpmnbbjofnaaGreatDoor
open Go.RowKit
def addL : List Value := [.int .i64 1, .string ⟨⟨[97]⟩⟩, .string ⟨⟨[]⟩⟩, .string ⟨⟨[120]⟩⟩, .int .i64 2, .slice none 0 0]
def drainL : List Value := [.int .i64 10, .string ⟨⟨[]⟩⟩, .string ⟨⟨[]⟩⟩, .string ⟨⟨[]⟩⟩, .int .i64 0, .slice none 0 0]
def opAddL : List Value := [.int .i64 1, .int .i64 0, .int .i64 0, .int .i64 1, .string ⟨⟨[97]⟩⟩, .string ⟨⟨[]⟩⟩, .string ⟨⟨[120]⟩⟩, .int .i64 2, .slice none 0 0]
def netP : Value := .pointer (some ⟨1002, 0, none⟩)
def nodeP0 : Value := .pointer (some ⟨1011, 0, none⟩)
def nodeP1 : Value := .pointer (some ⟨1022, 0, none⟩)
def netO : Ax.AO := .cells [.slice (some ⟨1024, 0, some 1⟩) 2 2, .slice none 0 0] true
def nodesO : Ax.AO := .cells [nodeP0, nodeP1] true
def cartsV : Value := .slice (some ⟨1529, 0, some 4⟩) 1 1
def splitV : Value := .tuple ⟨[.slice (some ⟨1854, 0, some 1⟩) 1 1, .int .i64 0]⟩
def batchV : Value := .slice (some ⟨1852, 0, some 1⟩) 19 19
def cloneV : Value := .slice (some ⟨1856, 0, some 1⟩) 19 19
def copyP : Value := .pointer (some ⟨1511, 0, none⟩)
def drain0V : Value := .tuple ⟨[.agg ⟨[.int .i64 10, .int .i64 0, .int .i64 1, .slice none 0 0, .slice (some ⟨1993, 0, some 1⟩) 1 1]⟩, .int .i64 0]⟩
def deltasV : Value := .slice (some ⟨1530, 0, some 4⟩) 1 1
def drain1V : Value := .tuple ⟨[.agg ⟨[.int .i64 10, .int .i64 0, .int .i64 0, .slice none 0 0, .slice none 0 0]⟩, .int .i64 0]⟩
noncomputable def gRun (m : Int) : Option (Value × Ax.St) := Ax.callB gv 100000 5 [] (st0 m).nx (st0 m)
noncomputable def dRun (σ : Ax.St) : Option (Value × Ax.St) := Ax.callB gv 100000 6 [netP, .agg ⟨opAddL⟩, .int .i64 2, .int .i64 0, .int .i64 0] 1000 σ
noncomputable def hOf : List (Nat × Ax.AO) → Ax.Tr Ax.AO
  | [] => .nil
  | p :: l => (hOf l).set p.1 p.2
theorem hOf_get : ∀ {l : List (Nat × Ax.AO)} {i : Nat} {o : Ax.AO}, (hOf l).get i = some o → (i, o) ∈ l
  | [], i, o, h => by simp [hOf, Ax.Tr.get_nil] at h
  | p :: l, i, o, h => by
    simp only [hOf, Ax.Tr.get_set] at h
    split at h
    · rename_i e
      injection h with h
      subst h; subst e
      exact List.mem_cons_self ..
    · exact List.mem_cons_of_mem _ (hOf_get h)
/-- the nodes' objects behind the first call -/
def litsK (m : Int) : List (Nat × Ax.AO) := [(0, .cells [.int .i64 m] false), (1, .cells [.int .u32 2166136261, .int .u32 16777619] false), (1011, .cells [.int .i64 1, .int .i64 1, .int .i64 3, .int .i64 2, .pointer (some ⟨1005, 0, none⟩), .pointer (some ⟨1008, 0, none⟩), .pointer (some ⟨1009, 0, none⟩), .pointer (some ⟨1010, 0, none⟩), .bool false] true), (1005, .cells [.slice (some ⟨1004, 0, none⟩) 1 1, .int .i64 1] true), (1004, .cells [.map (some 1006)] true), (1006, .map [(.string ⟨⟨[97]⟩⟩, .agg ⟨[.int .i64 1, .slice (some ⟨1410, 0, some 2⟩) 1 1, .slice none 0 0, .slice (some ⟨1412, 0, some 2⟩) 1 1]⟩, 0)] 1), (1410, .cells [.int .i64 1, .int .i64 1] true), (1412, .cells [.string ⟨⟨[120]⟩⟩, .slice (some ⟨1415, 0, some 4⟩) 1 1] true), (1415, .cells [.int .i64 1, .int .i64 1, .int .i64 2, .int .u64 1] true), (1008, .cells [.int .i64 1, .int .i64 1] true), (1009, .cells [.int .i64 3, .slice none 0 0, .int .i64 0, .int .i64 0] true), (1010, .cells [.int .i64 2, .slice (some ⟨1508, 0, none⟩) 1 1, .slice none 0 0] true), (1508, .cells [.string ⟨⟨[97]⟩⟩, .slice (some ⟨1501, 0, some 2⟩) 1 1, .slice none 0 0, .slice (some ⟨1503, 0, some 2⟩) 1 1] true), (1501, .cells [.int .i64 1, .int .i64 1] true), (1503, .cells [.string ⟨⟨[120]⟩⟩, .slice (some ⟨1506, 0, some 4⟩) 1 1] true), (1506, .cells [.int .i64 1, .int .i64 1, .int .i64 2, .int .u64 1] true), (1022, .cells [.int .i64 2, .int .i64 1, .int .i64 3, .int .i64 2, .pointer (some ⟨1016, 0, none⟩), .pointer (some ⟨1019, 0, none⟩), .pointer (some ⟨1020, 0, none⟩), .pointer (some ⟨1021, 0, none⟩), .bool false] true), (1016, .cells [.slice (some ⟨1015, 0, none⟩) 1 1, .int .i64 0] true), (1015, .cells [.map (some 1017)] true), (1017, .map [] 0), (1019, .cells [.int .i64 2, .int .i64 0] true), (1020, .cells [.int .i64 3, .slice none 0 0, .int .i64 0, .int .i64 0] true), (1021, .cells [.int .i64 2, .slice none 0 0, .slice none 0 0] true)]
noncomputable def kS (m : Int) : Ax.St := { h := hOf (litsK m), nx := 1511 }
theorem lits_ids (m : Int) : ((litsK m).all fun x => !(x.1 == 1002) && !(x.1 == 1024)) = true := by kernel_rfl
theorem InS.lits {σ : Ax.St} {m : Int} {lo B : Nat} {A : Nat → Prop} {W : World} {l l' : List Value} (h : InS σ lo B A W l l') (hn : σ.nx = 1511) (hl : ∀ x ∈ litsK m, σ.h.get x.1 = some x.2) : InS (kS m) lo B A W l l' := by
  obtain ⟨E, hI, hv, h1, h2, h3, h4, h5⟩ := h
  have hg : ∀ i o, (kS m).h.get i = some o → σ.h.get i = some o := fun i o hi => hl (i, o) (hOf_get hi)
  refine ⟨E, ⟨fun i o hi => hI.heap i o (hg i o hi), fun i j o o' b n k hi hj => hI.inj i j o o' b n k (hg i o hi) (hg j o' hj), fun i hi => hI.fresh i (by rw [hn]; exact hi), hI.glob, hI.bnd⟩, hv, by rw [hn] at h1; exact h1, h2, h3, fun i o hi hlv b n hb => h4 i o (hg i o hi) hlv b n hb, h5⟩
noncomputable def cartsR (k : Ax.St) : Option (Value × Ax.St) := Ax.callB gv 100000 56 [nodeP0] k.nx k
noncomputable def splitR (lo : Nat) (k : Ax.St) : Option (Value × Ax.St) := Ax.callB gv 100000 55 [cartsV] lo k
noncomputable def cloneR (lo : Nat) (k : Ax.St) : Option (Value × Ax.St) := Ax.callB gv 100000 26 [batchV] lo k
noncomputable def copyR (n : Value) (k : Ax.St) : Option (Value × Ax.St) := Ax.callB gv 100000 17 [n] k.nx k
noncomputable def drainR (lo : Nat) (k : Ax.St) : Option (Value × Ax.St) := Ax.callB gv 100000 23 [copyP, .agg ⟨drainL⟩] lo k
noncomputable def deltasR (lo : Nat) (k : Ax.St) : Option (Value × Ax.St) := Ax.callB gv 100000 9 [copyP] lo k
noncomputable def runA (k : Ax.St) : Option (List Value × Option Ax.AO) := (cartsR k).bind fun c => (splitR k.nx c.2).bind fun s => (cloneR k.nx s.2).bind fun l => some ([c.1, s.1, l.1], s.2.h.get 1854)
noncomputable def runB (k : Ax.St) : Option (List Value) := (copyR nodeP0 k).bind fun c => (drainR k.nx c.2).bind fun d => (deltasR k.nx c.2).bind fun e => some [c.1, d.1, e.1]
noncomputable def runC (k : Ax.St) : Option (List Value) := (copyR nodeP1 k).bind fun c => (drainR k.nx c.2).bind fun d => some [c.1, d.1]
noncomputable def firstRun (m : Int) : Option ((List Value × Nat) × (List (Option Ax.AO) × List (Option Ax.AO))) :=
  (gRun m).bind fun p => (dRun p.2).bind fun q => some (([p.1, q.1], q.2.nx), ([q.2.h.get 1002, q.2.h.get 1024], (litsK m).map fun x => q.2.h.get x.1))
set_option maxHeartbeats 0 in
set_option maxRecDepth 100000 in
theorem first_run (m : Int) : firstRun m = some (([.tuple ⟨[netP, .agg ⟨addL⟩]⟩, .bool true], 1511), ([some netO, some nodesO], (litsK m).map fun x => some x.2)) := by kernel_rfl
set_option maxHeartbeats 0 in
set_option maxRecDepth 100000 in
theorem runA_lit (m : Int) : runA (kS m) = some ([cartsV, splitV, cloneV], some (.cells [batchV] true)) := by kernel_rfl
set_option maxHeartbeats 0 in
set_option maxRecDepth 100000 in
theorem runB_lit (m : Int) : runB (kS m) = some [copyP, drain0V, deltasV] := by kernel_rfl
set_option maxHeartbeats 0 in
set_option maxRecDepth 100000 in
theorem runC_lit (m : Int) : runC (kS m) = some [copyP, drain1V] := by kernel_rfl
/-- what is known of the state behind the first call -/
structure KState (k : Ax.St) : Prop where
  a : ∃ k3 k4 k5, cartsR k = some (cartsV, k3) ∧ splitR k.nx k3 = some (splitV, k4) ∧ k4.h.get 1854 = some (.cells [batchV] true) ∧ cloneR k.nx k4 = some (cloneV, k5)
  b : ∃ k3 k4 k5, copyR nodeP0 k = some (copyP, k3) ∧ drainR k.nx k3 = some (drain0V, k4) ∧ deltasR k.nx k3 = some (deltasV, k5)
  c : ∃ k3 k4, copyR nodeP1 k = some (copyP, k3) ∧ drainR k.nx k3 = some (drain1V, k4)
theorem runA_some {k : Ax.St} {a b c : Value} {o : Option Ax.AO} (h : runA k = some ([a, b, c], o)) : ∃ k3 k4 k5, cartsR k = some (a, k3) ∧ splitR k.nx k3 = some (b, k4) ∧ k4.h.get 1854 = o ∧ cloneR k.nx k4 = some (c, k5) := by
  unfold runA at h
  simp only [Option.bind_eq_some_iff] at h
  obtain ⟨⟨x, s⟩, h1, ⟨y, t⟩, h2, ⟨z, u⟩, h3, h4⟩ := h
  simp only [Option.some.injEq, Prod.mk.injEq, List.cons.injEq, and_true] at h4
  obtain ⟨⟨rfl, rfl, rfl⟩, h5⟩ := h4
  exact ⟨s, t, u, h1, h2, h5, h3⟩
theorem runB_some {k : Ax.St} {a b c : Value} (h : runB k = some [a, b, c]) : ∃ k3 k4 k5, copyR nodeP0 k = some (a, k3) ∧ drainR k.nx k3 = some (b, k4) ∧ deltasR k.nx k3 = some (c, k5) := by
  unfold runB at h
  simp only [Option.bind_eq_some_iff] at h
  obtain ⟨⟨x, s⟩, h1, ⟨y, t⟩, h2, ⟨z, u⟩, h3, h4⟩ := h
  simp only [Option.some.injEq, List.cons.injEq, and_true] at h4
  obtain ⟨rfl, rfl, rfl⟩ := h4
  exact ⟨s, t, u, h1, h2, h3⟩
theorem runC_some {k : Ax.St} {a b : Value} (h : runC k = some [a, b]) : ∃ k3 k4, copyR nodeP1 k = some (a, k3) ∧ drainR k.nx k3 = some (b, k4) := by
  unfold runC at h
  simp only [Option.bind_eq_some_iff] at h
  obtain ⟨⟨x, s⟩, h1, ⟨y, t⟩, h2, h4⟩ := h
  simp only [Option.some.injEq, List.cons.injEq, and_true] at h4
  obtain ⟨rfl, rfl⟩ := h4
  exact ⟨s, t, h1, h2⟩
theorem kstate (m : Int) : KState (kS m) := ⟨runA_some (runA_lit m), runB_some (runB_lit m), runC_some (runC_lit m)⟩
theorem net_known (m : Int) : ∃ s1 s2, gRun m = some (.tuple ⟨[netP, .agg ⟨addL⟩]⟩, s1) ∧ dRun s1 = some (.bool true, s2) ∧ s2.h.get 1002 = some netO ∧ s2.h.get 1024 = some nodesO ∧ s2.nx = 1511 ∧ ∀ x ∈ litsK m, s2.h.get x.1 = some x.2 := by
  have h := first_run m
  unfold firstRun at h
  simp only [Option.bind_eq_some_iff] at h
  obtain ⟨⟨x, s⟩, h1, ⟨y, t⟩, h2, h4⟩ := h
  simp only [Option.some.injEq, Prod.mk.injEq, List.cons.injEq, and_true] at h4
  obtain ⟨⟨⟨rfl, rfl⟩, h5⟩, ⟨h6, h7⟩, h8⟩ := h4
  exact ⟨s, t, h1, h2, h6, h7, h5, fun z hz => (List.map_inj_left.1 h8) z hz⟩
end Go.Proofs.YtfddpmnbbjofnaaGreatDoor
