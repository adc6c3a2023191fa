/- The methods of a net that is nil or zero. -/
import Derived.Test.YtolfflaenjcpcaaGreatDoorNz
set_option linter.unusedVariables false
set_option linter.unusedSimpArgs false
namespace Go.Proofs.YtolfflaenjcpcaaGreatDoor
open Go.RowKit
def zeroN : List Value := [.slice none 0 0, .slice none 0 0]
set_option maxRecDepth 100000 in
theorem npacket_nilrun : (Ax.callB gvb 100000 24 [.pointer none, .chan (some 9)] 1000 { h := .nil, nx := 1000 }).map (·.1) = some (.tuple ⟨[.slice none 0 0, .int .i64 1]⟩) := by kernel_rfl
set_option maxRecDepth 100000 in
theorem npacket_zerorun : (Ax.callB gvb 100000 24 [.pointer (some ⟨1000, 0, none⟩), .chan (some 9)] 1001 { h := Ax.Tr.nil.set 1000 (.cells zeroN false), nx := 1001 }).map (·.1) = some (.tuple ⟨[.slice none 0 0, .int .i64 1]⟩) := by kernel_rfl
theorem npacket_nil (x : Int) (w : World) (hs : gvb.ng ≤ w.heap.size) : Calls Tryz.prog 24 #[.pointer none, .int .i64 x] w fun e w' => e = .returned (.tuple ⟨[.slice none 0 0, .int .i64 1]⟩) ∧ Below w.heap.size w w' :=
  nil_call (by kernel_rfl) npacket_nilrun hs (sym := (fun i => if i = 9 then some (.int .i64 x) else none)) (.cons _ _ _ _ .nilp (.cons _ _ _ _ (.sym 9 _ rfl rfl) (.nil)))
theorem npacket_zero (x : Int) (w : World) (hs : gvb.ng ≤ w.heap.size) {p : Nat} {arr : Array Value} {ty : TypeId} {fr : Nat × Nat} (hp : w.heap[p]? = some (.cells arr ty fr)) (harr : arr.toList = zeroN) : Calls Tryz.prog 24 #[.pointer (some ⟨p, 0, none⟩), .int .i64 x] w fun e w' => e = .returned (.tuple ⟨[.slice none 0 0, .int .i64 1]⟩) ∧ Below w.heap.size w w' :=
  zero_call (by kernel_rfl) (by kernel_rfl) npacket_zerorun hs hp (by rw [harr]; rfl) (by rw [← Array.length_toList, harr]; exact Nat.le_refl _) (sym := (fun i => if i = 9 then some (.int .i64 x) else none)) (.cons _ _ _ _ (.ptr _ _ _ _ (Ez_here _ _ _ _)) (.cons _ _ _ _ (.sym 9 _ rfl rfl) (.nil)))
set_option maxRecDepth 100000 in
theorem nfrom_nilrun : (Ax.callB gvb 100000 25 [.pointer none, .chan (some 9)] 1000 { h := .nil, nx := 1000 }).map (·.1) = some (.tuple ⟨[.int .i64 0, .int .i64 1]⟩) := by kernel_rfl
set_option maxRecDepth 100000 in
theorem nfrom_zerorun : (Ax.callB gvb 100000 25 [.pointer (some ⟨1000, 0, none⟩), .chan (some 9)] 1001 { h := Ax.Tr.nil.set 1000 (.cells zeroN false), nx := 1001 }).map (·.1) = some (.tuple ⟨[.int .i64 0, .int .i64 1]⟩) := by kernel_rfl
theorem nfrom_nil (x : Int) (w : World) (hs : gvb.ng ≤ w.heap.size) : Calls Tryz.prog 25 #[.pointer none, .int .i64 x] w fun e w' => e = .returned (.tuple ⟨[.int .i64 0, .int .i64 1]⟩) ∧ Below w.heap.size w w' :=
  nil_call (by kernel_rfl) nfrom_nilrun hs (sym := (fun i => if i = 9 then some (.int .i64 x) else none)) (.cons _ _ _ _ .nilp (.cons _ _ _ _ (.sym 9 _ rfl rfl) (.nil)))
theorem nfrom_zero (x : Int) (w : World) (hs : gvb.ng ≤ w.heap.size) {p : Nat} {arr : Array Value} {ty : TypeId} {fr : Nat × Nat} (hp : w.heap[p]? = some (.cells arr ty fr)) (harr : arr.toList = zeroN) : Calls Tryz.prog 25 #[.pointer (some ⟨p, 0, none⟩), .int .i64 x] w fun e w' => e = .returned (.tuple ⟨[.int .i64 0, .int .i64 1]⟩) ∧ Below w.heap.size w w' :=
  zero_call (by kernel_rfl) (by kernel_rfl) nfrom_zerorun hs hp (by rw [harr]; rfl) (by rw [← Array.length_toList, harr]; exact Nat.le_refl _) (sym := (fun i => if i = 9 then some (.int .i64 x) else none)) (.cons _ _ _ _ (.ptr _ _ _ _ (Ez_here _ _ _ _)) (.cons _ _ _ _ (.sym 9 _ rfl rfl) (.nil)))
set_option maxRecDepth 100000 in
theorem ndoes_nilrun : (Ax.callB gvb 100000 26 [.pointer none, .agg ⟨[.chan (some 0), .chan (some 1), .chan (some 2), .chan (some 3), .chan (some 4), .chan (some 5), .chan (some 6), .chan (some 7), .chan (some 8)]⟩, .int .i64 0, .int .i64 0, .int .i64 1] 1000 { h := .nil, nx := 1000 }).map (·.1) = some (.bool true) := by kernel_rfl
set_option maxRecDepth 100000 in
theorem ndoes_zerorun : (Ax.callB gvb 100000 26 [.pointer (some ⟨1000, 0, none⟩), .agg ⟨[.chan (some 0), .chan (some 1), .chan (some 2), .chan (some 3), .chan (some 4), .chan (some 5), .chan (some 6), .chan (some 7), .chan (some 8)]⟩, .int .i64 0, .int .i64 0, .int .i64 1] 1001 { h := Ax.Tr.nil.set 1000 (.cells zeroN false), nx := 1001 }).map (·.1) = some (.bool true) := by kernel_rfl
theorem ndoes_nil (kd nd N o q : Int) (k t j : ByteArray) (A : Option Addr) (n c : Nat) (w : World) (hs : gvb.ng ≤ w.heap.size) : Calls Tryz.prog 26 #[.pointer none, .agg #[.int .i64 kd, .int .i64 nd, .int .i64 N, .int .i64 o, .string k, .string t, .string j, .int .i64 q, .slice A n c], .int .i64 0, .int .i64 0, .int .i64 1] w fun e w' => e = .returned (.bool true) ∧ Below w.heap.size w w' :=
  nil_call (by kernel_rfl) ndoes_nilrun hs (sym := (fun i => match i with | 0 => some (.int .i64 kd) | 1 => some (.int .i64 nd) | 2 => some (.int .i64 N) | 3 => some (.int .i64 o) | 4 => some (.string k) | 5 => some (.string t) | 6 => some (.string j) | 7 => some (.int .i64 q) | 8 => some (.slice A n c) | _ => none)) (.cons _ _ _ _ .nilp (.cons _ _ _ _ (.agg _ _ (.cons _ _ _ _ (.sym 0 _ rfl rfl) (.cons _ _ _ _ (.sym 1 _ rfl rfl) (.cons _ _ _ _ (.sym 2 _ rfl rfl) (.cons _ _ _ _ (.sym 3 _ rfl rfl) (.cons _ _ _ _ (.sym 4 _ rfl rfl) (.cons _ _ _ _ (.sym 5 _ rfl rfl) (.cons _ _ _ _ (.sym 6 _ rfl rfl) (.cons _ _ _ _ (.sym 7 _ rfl rfl) (.cons _ _ _ _ (.sym 8 _ rfl rfl) (.nil))))))))))) (.cons _ _ _ _ (.int _ _) (.cons _ _ _ _ (.int _ _) (.cons _ _ _ _ (.int _ _) (.nil))))))
theorem ndoes_zero (kd nd N o q : Int) (k t j : ByteArray) (A : Option Addr) (n c : Nat) (w : World) (hs : gvb.ng ≤ w.heap.size) {p : Nat} {arr : Array Value} {ty : TypeId} {fr : Nat × Nat} (hp : w.heap[p]? = some (.cells arr ty fr)) (harr : arr.toList = zeroN) : Calls Tryz.prog 26 #[.pointer (some ⟨p, 0, none⟩), .agg #[.int .i64 kd, .int .i64 nd, .int .i64 N, .int .i64 o, .string k, .string t, .string j, .int .i64 q, .slice A n c], .int .i64 0, .int .i64 0, .int .i64 1] w fun e w' => e = .returned (.bool true) ∧ Below w.heap.size w w' :=
  zero_call (by kernel_rfl) (by kernel_rfl) ndoes_zerorun hs hp (by rw [harr]; rfl) (by rw [← Array.length_toList, harr]; exact Nat.le_refl _) (sym := (fun i => match i with | 0 => some (.int .i64 kd) | 1 => some (.int .i64 nd) | 2 => some (.int .i64 N) | 3 => some (.int .i64 o) | 4 => some (.string k) | 5 => some (.string t) | 6 => some (.string j) | 7 => some (.int .i64 q) | 8 => some (.slice A n c) | _ => none)) (.cons _ _ _ _ (.ptr _ _ _ _ (Ez_here _ _ _ _)) (.cons _ _ _ _ (.agg _ _ (.cons _ _ _ _ (.sym 0 _ rfl rfl) (.cons _ _ _ _ (.sym 1 _ rfl rfl) (.cons _ _ _ _ (.sym 2 _ rfl rfl) (.cons _ _ _ _ (.sym 3 _ rfl rfl) (.cons _ _ _ _ (.sym 4 _ rfl rfl) (.cons _ _ _ _ (.sym 5 _ rfl rfl) (.cons _ _ _ _ (.sym 6 _ rfl rfl) (.cons _ _ _ _ (.sym 7 _ rfl rfl) (.cons _ _ _ _ (.sym 8 _ rfl rfl) (.nil))))))))))) (.cons _ _ _ _ (.int _ _) (.cons _ _ _ _ (.int _ _) (.cons _ _ _ _ (.int _ _) (.nil))))))
set_option maxRecDepth 100000 in
theorem npackets_nilrun : (Ax.callB gvb 100000 27 [.pointer none] 1000 { h := .nil, nx := 1000 }).map (·.1) = some (.int .i64 0) := by kernel_rfl
set_option maxRecDepth 100000 in
theorem npackets_zerorun : (Ax.callB gvb 100000 27 [.pointer (some ⟨1000, 0, none⟩)] 1001 { h := Ax.Tr.nil.set 1000 (.cells zeroN false), nx := 1001 }).map (·.1) = some (.int .i64 0) := by kernel_rfl
theorem npackets_nil  (w : World) (hs : gvb.ng ≤ w.heap.size) : Calls Tryz.prog 27 #[.pointer none] w fun e w' => e = .returned (.int .i64 0) ∧ Below w.heap.size w w' :=
  nil_call (by kernel_rfl) npackets_nilrun hs (sym := (fun _ => none)) (.cons _ _ _ _ .nilp (.nil))
theorem npackets_zero  (w : World) (hs : gvb.ng ≤ w.heap.size) {p : Nat} {arr : Array Value} {ty : TypeId} {fr : Nat × Nat} (hp : w.heap[p]? = some (.cells arr ty fr)) (harr : arr.toList = zeroN) : Calls Tryz.prog 27 #[.pointer (some ⟨p, 0, none⟩)] w fun e w' => e = .returned (.int .i64 0) ∧ Below w.heap.size w w' :=
  zero_call (by kernel_rfl) (by kernel_rfl) npackets_zerorun hs hp (by rw [harr]; rfl) (by rw [← Array.length_toList, harr]; exact Nat.le_refl _) (sym := (fun _ => none)) (.cons _ _ _ _ (.ptr _ _ _ _ (Ez_here _ _ _ _)) (.nil))
set_option maxRecDepth 100000 in
theorem nnode_nilrun : (Ax.callB gvb 100000 28 [.pointer none, .chan (some 9)] 1000 { h := .nil, nx := 1000 }).map (·.1) = some (.pointer none) := by kernel_rfl
set_option maxRecDepth 100000 in
theorem nnode_zerorun : (Ax.callB gvb 100000 28 [.pointer (some ⟨1000, 0, none⟩), .chan (some 9)] 1001 { h := Ax.Tr.nil.set 1000 (.cells zeroN false), nx := 1001 }).map (·.1) = some (.pointer none) := by kernel_rfl
theorem nnode_nil (x : Int) (w : World) (hs : gvb.ng ≤ w.heap.size) : Calls Tryz.prog 28 #[.pointer none, .int .i64 x] w fun e w' => e = .returned (.pointer none) ∧ Below w.heap.size w w' :=
  nil_call (by kernel_rfl) nnode_nilrun hs (sym := (fun i => if i = 9 then some (.int .i64 x) else none)) (.cons _ _ _ _ .nilp (.cons _ _ _ _ (.sym 9 _ rfl rfl) (.nil)))
theorem nnode_zero (x : Int) (w : World) (hs : gvb.ng ≤ w.heap.size) {p : Nat} {arr : Array Value} {ty : TypeId} {fr : Nat × Nat} (hp : w.heap[p]? = some (.cells arr ty fr)) (harr : arr.toList = zeroN) : Calls Tryz.prog 28 #[.pointer (some ⟨p, 0, none⟩), .int .i64 x] w fun e w' => e = .returned (.pointer none) ∧ Below w.heap.size w w' :=
  zero_call (by kernel_rfl) (by kernel_rfl) nnode_zerorun hs hp (by rw [harr]; rfl) (by rw [← Array.length_toList, harr]; exact Nat.le_refl _) (sym := (fun i => if i = 9 then some (.int .i64 x) else none)) (.cons _ _ _ _ (.ptr _ _ _ _ (Ez_here _ _ _ _)) (.cons _ _ _ _ (.sym 9 _ rfl rfl) (.nil)))
set_option maxRecDepth 100000 in
theorem nnodes_nilrun : (Ax.callB gvb 100000 29 [.pointer none] 1000 { h := .nil, nx := 1000 }).map (·.1) = some (.int .i64 0) := by kernel_rfl
set_option maxRecDepth 100000 in
theorem nnodes_zerorun : (Ax.callB gvb 100000 29 [.pointer (some ⟨1000, 0, none⟩)] 1001 { h := Ax.Tr.nil.set 1000 (.cells zeroN false), nx := 1001 }).map (·.1) = some (.int .i64 0) := by kernel_rfl
theorem nnodes_nil  (w : World) (hs : gvb.ng ≤ w.heap.size) : Calls Tryz.prog 29 #[.pointer none] w fun e w' => e = .returned (.int .i64 0) ∧ Below w.heap.size w w' :=
  nil_call (by kernel_rfl) nnodes_nilrun hs (sym := (fun _ => none)) (.cons _ _ _ _ .nilp (.nil))
theorem nnodes_zero  (w : World) (hs : gvb.ng ≤ w.heap.size) {p : Nat} {arr : Array Value} {ty : TypeId} {fr : Nat × Nat} (hp : w.heap[p]? = some (.cells arr ty fr)) (harr : arr.toList = zeroN) : Calls Tryz.prog 29 #[.pointer (some ⟨p, 0, none⟩)] w fun e w' => e = .returned (.int .i64 0) ∧ Below w.heap.size w w' :=
  zero_call (by kernel_rfl) (by kernel_rfl) nnodes_zerorun hs hp (by rw [harr]; rfl) (by rw [← Array.length_toList, harr]; exact Nat.le_refl _) (sym := (fun _ => none)) (.cons _ _ _ _ (.ptr _ _ _ _ (Ez_here _ _ _ _)) (.nil))
set_option maxRecDepth 100000 in
theorem ncopy_nilrun : (Ax.callB gvb 100000 30 [.pointer none] 1000 { h := .nil, nx := 1000 }).map (·.1) = some (.pointer none) := by kernel_rfl
set_option maxRecDepth 100000 in
theorem ncopy_zerorun : (Ax.callB gvb 100000 30 [.pointer (some ⟨1000, 0, none⟩)] 1001 { h := Ax.Tr.nil.set 1000 (.cells zeroN false), nx := 1001 }).map (·.1) = some (.pointer none) := by kernel_rfl
theorem ncopy_nil  (w : World) (hs : gvb.ng ≤ w.heap.size) : Calls Tryz.prog 30 #[.pointer none] w fun e w' => e = .returned (.pointer none) ∧ Below w.heap.size w w' :=
  nil_call (by kernel_rfl) ncopy_nilrun hs (sym := (fun _ => none)) (.cons _ _ _ _ .nilp (.nil))
theorem ncopy_zero  (w : World) (hs : gvb.ng ≤ w.heap.size) {p : Nat} {arr : Array Value} {ty : TypeId} {fr : Nat × Nat} (hp : w.heap[p]? = some (.cells arr ty fr)) (harr : arr.toList = zeroN) : Calls Tryz.prog 30 #[.pointer (some ⟨p, 0, none⟩)] w fun e w' => e = .returned (.pointer none) ∧ Below w.heap.size w w' :=
  zero_call (by kernel_rfl) (by kernel_rfl) ncopy_zerorun hs hp (by rw [harr]; rfl) (by rw [← Array.length_toList, harr]; exact Nat.le_refl _) (sym := (fun _ => none)) (.cons _ _ _ _ (.ptr _ _ _ _ (Ez_here _ _ _ _)) (.nil))
end Go.Proofs.YtolfflaenjcpcaaGreatDoor
