/- The methods of a journal that is nil or zero. -/
import Derived.Test.YtolfflaenjcpcaaGreatDoorNz
set_option linter.unusedVariables false
set_option linter.unusedSimpArgs false
namespace Go.Proofs.YtolfflaenjcpcaaGreatDoor
open Go.RowKit
def zeroJ : List Value := [.bool false, .int .i64 0, .int .i64 0, .int .i64 0, .int .i64 0, .slice none 0 0, .int .u32 0, .slice none 0 0]
set_option maxRecDepth 100000 in
theorem cut_nilrun : (Ax.callB gvb 100000 33 [.pointer none, .chan (some 6)] 1000 { h := .nil, nx := 1000 }).map (·.1) = some (.tuple ⟨[.pointer none, .int .i64 1]⟩) := by kernel_rfl
set_option maxRecDepth 100000 in
theorem cut_zerorun : (Ax.callB gvb 100000 33 [.pointer (some ⟨1000, 0, none⟩), .chan (some 6)] 1001 { h := Ax.Tr.nil.set 1000 (.cells zeroJ false), nx := 1001 }).map (·.1) = some (.tuple ⟨[.pointer none, .int .i64 1]⟩) := by kernel_rfl
theorem cut_nil (x : Int) (w : World) (hs : gvb.ng ≤ w.heap.size) : Calls Tryz.prog 33 #[.pointer none, .int .i64 x] w fun e w' => e = .returned (.tuple ⟨[.pointer none, .int .i64 1]⟩) ∧ Below w.heap.size w w' :=
  nil_call (by kernel_rfl) cut_nilrun hs (sym := (fun i => if i = 6 then some (.int .i64 x) else none)) (.cons _ _ _ _ .nilp (.cons _ _ _ _ (.sym 6 _ rfl rfl) .nil))
theorem cut_zero (x : Int) (w : World) (hs : gvb.ng ≤ w.heap.size) {p : Nat} {arr : Array Value} {ty : TypeId} {fr : Nat × Nat} (hp : w.heap[p]? = some (.cells arr ty fr)) (harr : arr.toList = zeroJ) : Calls Tryz.prog 33 #[.pointer (some ⟨p, 0, none⟩), .int .i64 x] w fun e w' => e = .returned (.tuple ⟨[.pointer none, .int .i64 1]⟩) ∧ Below w.heap.size w w' :=
  zero_call (by kernel_rfl) (by kernel_rfl) cut_zerorun hs hp (by rw [harr]; rfl) (by rw [← Array.length_toList, harr]; exact Nat.le_refl _) (sym := (fun i => if i = 6 then some (.int .i64 x) else none)) (.cons _ _ _ _ (.ptr _ _ _ _ (Ez_here _ _ _ _)) (.cons _ _ _ _ (.sym 6 _ rfl rfl) .nil))
set_option maxRecDepth 100000 in
theorem run_nilrun : (Ax.callB gvb 100000 34 [.pointer none] 1000 { h := .nil, nx := 1000 }).map (·.1) = some (.tuple ⟨[.pointer none, .slice none 0 0, .int .i64 1]⟩) := by kernel_rfl
set_option maxRecDepth 100000 in
theorem run_zerorun : (Ax.callB gvb 100000 34 [.pointer (some ⟨1000, 0, none⟩)] 1001 { h := Ax.Tr.nil.set 1000 (.cells zeroJ false), nx := 1001 }).map (·.1) = some (.tuple ⟨[.pointer none, .slice none 0 0, .int .i64 1]⟩) := by kernel_rfl
theorem run_nil  (w : World) (hs : gvb.ng ≤ w.heap.size) : Calls Tryz.prog 34 #[.pointer none] w fun e w' => e = .returned (.tuple ⟨[.pointer none, .slice none 0 0, .int .i64 1]⟩) ∧ Below w.heap.size w w' :=
  nil_call (by kernel_rfl) run_nilrun hs (sym := (fun _ => none)) (.cons _ _ _ _ .nilp (.nil))
theorem run_zero  (w : World) (hs : gvb.ng ≤ w.heap.size) {p : Nat} {arr : Array Value} {ty : TypeId} {fr : Nat × Nat} (hp : w.heap[p]? = some (.cells arr ty fr)) (harr : arr.toList = zeroJ) : Calls Tryz.prog 34 #[.pointer (some ⟨p, 0, none⟩)] w fun e w' => e = .returned (.tuple ⟨[.pointer none, .slice none 0 0, .int .i64 1]⟩) ∧ Below w.heap.size w w' :=
  zero_call (by kernel_rfl) (by kernel_rfl) run_zerorun hs hp (by rw [harr]; rfl) (by rw [← Array.length_toList, harr]; exact Nat.le_refl _) (sym := (fun _ => none)) (.cons _ _ _ _ (.ptr _ _ _ _ (Ez_here _ _ _ _)) (.nil))
set_option maxRecDepth 100000 in
theorem app_nilrun : (Ax.callB gvb 100000 35 [.pointer none, .agg ⟨[.chan (some 0), .chan (some 1), .chan (some 2), .chan (some 3), .chan (some 4), .chan (some 5)]⟩] 1000 { h := .nil, nx := 1000 }).map (·.1) = some (.int .i64 1) := by kernel_rfl
set_option maxRecDepth 100000 in
theorem app_zerorun : (Ax.callB gvb 100000 35 [.pointer (some ⟨1000, 0, none⟩), .agg ⟨[.chan (some 0), .chan (some 1), .chan (some 2), .chan (some 3), .chan (some 4), .chan (some 5)]⟩] 1001 { h := Ax.Tr.nil.set 1000 (.cells zeroJ false), nx := 1001 }).map (·.1) = some (.int .i64 1) := by kernel_rfl
theorem app_nil (o q : Int) (k t j : ByteArray) (A : Option Addr) (n c : Nat) (w : World) (hs : gvb.ng ≤ w.heap.size) : Calls Tryz.prog 35 #[.pointer none, .agg #[.int .i64 o, .string k, .string t, .string j, .int .i64 q, .slice A n c]] w fun e w' => e = .returned (.int .i64 1) ∧ Below w.heap.size w w' :=
  nil_call (by kernel_rfl) app_nilrun hs (sym := (fun i => match i with | 0 => some (.int .i64 o) | 1 => some (.string k) | 2 => some (.string t) | 3 => some (.string j) | 4 => some (.int .i64 q) | 5 => some (.slice A n c) | _ => none)) (.cons _ _ _ _ .nilp (.cons _ _ _ _ (.agg _ _ (.cons _ _ _ _ (.sym 0 _ rfl rfl) (.cons _ _ _ _ (.sym 1 _ rfl rfl) (.cons _ _ _ _ (.sym 2 _ rfl rfl) (.cons _ _ _ _ (.sym 3 _ rfl rfl) (.cons _ _ _ _ (.sym 4 _ rfl rfl) (.cons _ _ _ _ (.sym 5 _ rfl rfl) .nil))))))) .nil))
theorem app_zero (o q : Int) (k t j : ByteArray) (A : Option Addr) (n c : Nat) (w : World) (hs : gvb.ng ≤ w.heap.size) {p : Nat} {arr : Array Value} {ty : TypeId} {fr : Nat × Nat} (hp : w.heap[p]? = some (.cells arr ty fr)) (harr : arr.toList = zeroJ) : Calls Tryz.prog 35 #[.pointer (some ⟨p, 0, none⟩), .agg #[.int .i64 o, .string k, .string t, .string j, .int .i64 q, .slice A n c]] w fun e w' => e = .returned (.int .i64 1) ∧ Below w.heap.size w w' :=
  zero_call (by kernel_rfl) (by kernel_rfl) app_zerorun hs hp (by rw [harr]; rfl) (by rw [← Array.length_toList, harr]; exact Nat.le_refl _) (sym := (fun i => match i with | 0 => some (.int .i64 o) | 1 => some (.string k) | 2 => some (.string t) | 3 => some (.string j) | 4 => some (.int .i64 q) | 5 => some (.slice A n c) | _ => none)) (.cons _ _ _ _ (.ptr _ _ _ _ (Ez_here _ _ _ _)) (.cons _ _ _ _ (.agg _ _ (.cons _ _ _ _ (.sym 0 _ rfl rfl) (.cons _ _ _ _ (.sym 1 _ rfl rfl) (.cons _ _ _ _ (.sym 2 _ rfl rfl) (.cons _ _ _ _ (.sym 3 _ rfl rfl) (.cons _ _ _ _ (.sym 4 _ rfl rfl) (.cons _ _ _ _ (.sym 5 _ rfl rfl) .nil))))))) .nil))
set_option maxRecDepth 100000 in
theorem len_nilrun : (Ax.callB gvb 100000 36 [.pointer none] 1000 { h := .nil, nx := 1000 }).map (·.1) = some (.int .i64 0) := by kernel_rfl
set_option maxRecDepth 100000 in
theorem len_zerorun : (Ax.callB gvb 100000 36 [.pointer (some ⟨1000, 0, none⟩)] 1001 { h := Ax.Tr.nil.set 1000 (.cells zeroJ false), nx := 1001 }).map (·.1) = some (.int .i64 0) := by kernel_rfl
theorem len_nil  (w : World) (hs : gvb.ng ≤ w.heap.size) : Calls Tryz.prog 36 #[.pointer none] w fun e w' => e = .returned (.int .i64 0) ∧ Below w.heap.size w w' :=
  nil_call (by kernel_rfl) len_nilrun hs (sym := (fun _ => none)) (.cons _ _ _ _ .nilp (.nil))
theorem len_zero  (w : World) (hs : gvb.ng ≤ w.heap.size) {p : Nat} {arr : Array Value} {ty : TypeId} {fr : Nat × Nat} (hp : w.heap[p]? = some (.cells arr ty fr)) (harr : arr.toList = zeroJ) : Calls Tryz.prog 36 #[.pointer (some ⟨p, 0, none⟩)] w fun e w' => e = .returned (.int .i64 0) ∧ Below w.heap.size w w' :=
  zero_call (by kernel_rfl) (by kernel_rfl) len_zerorun hs hp (by rw [harr]; rfl) (by rw [← Array.length_toList, harr]; exact Nat.le_refl _) (sym := (fun _ => none)) (.cons _ _ _ _ (.ptr _ _ _ _ (Ez_here _ _ _ _)) (.nil))
set_option maxRecDepth 100000 in
theorem sum_nilrun : (Ax.callB gvb 100000 37 [.pointer none] 1000 { h := .nil, nx := 1000 }).map (·.1) = some (.int .u32 0) := by kernel_rfl
set_option maxRecDepth 100000 in
theorem sum_zerorun : (Ax.callB gvb 100000 37 [.pointer (some ⟨1000, 0, none⟩)] 1001 { h := Ax.Tr.nil.set 1000 (.cells zeroJ false), nx := 1001 }).map (·.1) = some (.int .u32 0) := by kernel_rfl
theorem sum_nil  (w : World) (hs : gvb.ng ≤ w.heap.size) : Calls Tryz.prog 37 #[.pointer none] w fun e w' => e = .returned (.int .u32 0) ∧ Below w.heap.size w w' :=
  nil_call (by kernel_rfl) sum_nilrun hs (sym := (fun _ => none)) (.cons _ _ _ _ .nilp (.nil))
theorem sum_zero  (w : World) (hs : gvb.ng ≤ w.heap.size) {p : Nat} {arr : Array Value} {ty : TypeId} {fr : Nat × Nat} (hp : w.heap[p]? = some (.cells arr ty fr)) (harr : arr.toList = zeroJ) : Calls Tryz.prog 37 #[.pointer (some ⟨p, 0, none⟩)] w fun e w' => e = .returned (.int .u32 0) ∧ Below w.heap.size w w' :=
  zero_call (by kernel_rfl) (by kernel_rfl) sum_zerorun hs hp (by rw [harr]; rfl) (by rw [← Array.length_toList, harr]; exact Nat.le_refl _) (sym := (fun _ => none)) (.cons _ _ _ _ (.ptr _ _ _ _ (Ez_here _ _ _ _)) (.nil))
set_option maxRecDepth 100000 in
theorem calls_nilrun : (Ax.callB gvb 100000 38 [.pointer none] 1000 { h := .nil, nx := 1000 }).map (·.1) = some (.slice none 0 0) := by kernel_rfl
set_option maxRecDepth 100000 in
theorem calls_zerorun : (Ax.callB gvb 100000 38 [.pointer (some ⟨1000, 0, none⟩)] 1001 { h := Ax.Tr.nil.set 1000 (.cells zeroJ false), nx := 1001 }).map (·.1) = some (.slice none 0 0) := by kernel_rfl
theorem calls_nil  (w : World) (hs : gvb.ng ≤ w.heap.size) : Calls Tryz.prog 38 #[.pointer none] w fun e w' => e = .returned (.slice none 0 0) ∧ Below w.heap.size w w' :=
  nil_call (by kernel_rfl) calls_nilrun hs (sym := (fun _ => none)) (.cons _ _ _ _ .nilp (.nil))
theorem calls_zero  (w : World) (hs : gvb.ng ≤ w.heap.size) {p : Nat} {arr : Array Value} {ty : TypeId} {fr : Nat × Nat} (hp : w.heap[p]? = some (.cells arr ty fr)) (harr : arr.toList = zeroJ) : Calls Tryz.prog 38 #[.pointer (some ⟨p, 0, none⟩)] w fun e w' => e = .returned (.slice none 0 0) ∧ Below w.heap.size w w' :=
  zero_call (by kernel_rfl) (by kernel_rfl) calls_zerorun hs hp (by rw [harr]; rfl) (by rw [← Array.length_toList, harr]; exact Nat.le_refl _) (sym := (fun _ => none)) (.cons _ _ _ _ (.ptr _ _ _ _ (Ez_here _ _ _ _)) (.nil))
set_option maxRecDepth 100000 in
theorem bytes_nilrun : (Ax.callB gvb 100000 39 [.pointer none] 1000 { h := .nil, nx := 1000 }).map (·.1) = some (.slice none 0 0) := by kernel_rfl
set_option maxRecDepth 100000 in
theorem bytes_zerorun : (Ax.callB gvb 100000 39 [.pointer (some ⟨1000, 0, none⟩)] 1001 { h := Ax.Tr.nil.set 1000 (.cells zeroJ false), nx := 1001 }).map (·.1) = some (.slice none 0 0) := by kernel_rfl
theorem bytes_nil  (w : World) (hs : gvb.ng ≤ w.heap.size) : Calls Tryz.prog 39 #[.pointer none] w fun e w' => e = .returned (.slice none 0 0) ∧ Below w.heap.size w w' :=
  nil_call (by kernel_rfl) bytes_nilrun hs (sym := (fun _ => none)) (.cons _ _ _ _ .nilp (.nil))
theorem bytes_zero  (w : World) (hs : gvb.ng ≤ w.heap.size) {p : Nat} {arr : Array Value} {ty : TypeId} {fr : Nat × Nat} (hp : w.heap[p]? = some (.cells arr ty fr)) (harr : arr.toList = zeroJ) : Calls Tryz.prog 39 #[.pointer (some ⟨p, 0, none⟩)] w fun e w' => e = .returned (.slice none 0 0) ∧ Below w.heap.size w w' :=
  zero_call (by kernel_rfl) (by kernel_rfl) bytes_zerorun hs hp (by rw [harr]; rfl) (by rw [← Array.length_toList, harr]; exact Nat.le_refl _) (sym := (fun _ => none)) (.cons _ _ _ _ (.ptr _ _ _ _ (Ez_here _ _ _ _)) (.nil))
set_option maxRecDepth 100000 in
theorem config_nilrun : (Ax.callB gvb 100000 40 [.pointer none] 1000 { h := .nil, nx := 1000 }).map (·.1) = some (.agg ⟨[.int .i64 0, .int .i64 0, .int .i64 0, .int .i64 0]⟩) := by kernel_rfl
set_option maxRecDepth 100000 in
theorem config_zerorun : (Ax.callB gvb 100000 40 [.pointer (some ⟨1000, 0, none⟩)] 1001 { h := Ax.Tr.nil.set 1000 (.cells zeroJ false), nx := 1001 }).map (·.1) = some (.agg ⟨[.int .i64 0, .int .i64 0, .int .i64 0, .int .i64 0]⟩) := by kernel_rfl
theorem config_nil  (w : World) (hs : gvb.ng ≤ w.heap.size) : Calls Tryz.prog 40 #[.pointer none] w fun e w' => e = .returned (.agg ⟨[.int .i64 0, .int .i64 0, .int .i64 0, .int .i64 0]⟩) ∧ Below w.heap.size w w' :=
  nil_call (by kernel_rfl) config_nilrun hs (sym := (fun _ => none)) (.cons _ _ _ _ .nilp (.nil))
theorem config_zero  (w : World) (hs : gvb.ng ≤ w.heap.size) {p : Nat} {arr : Array Value} {ty : TypeId} {fr : Nat × Nat} (hp : w.heap[p]? = some (.cells arr ty fr)) (harr : arr.toList = zeroJ) : Calls Tryz.prog 40 #[.pointer (some ⟨p, 0, none⟩)] w fun e w' => e = .returned (.agg ⟨[.int .i64 0, .int .i64 0, .int .i64 0, .int .i64 0]⟩) ∧ Below w.heap.size w w' :=
  zero_call (by kernel_rfl) (by kernel_rfl) config_zerorun hs hp (by rw [harr]; rfl) (by rw [← Array.length_toList, harr]; exact Nat.le_refl _) (sym := (fun _ => none)) (.cons _ _ _ _ (.ptr _ _ _ _ (Ez_here _ _ _ _)) (.nil))
set_option maxRecDepth 100000 in
theorem copy_nilrun : (Ax.callB gvb 100000 41 [.pointer none] 1000 { h := .nil, nx := 1000 }).map (·.1) = some (.pointer none) := by kernel_rfl
set_option maxRecDepth 100000 in
theorem copy_zerorun : (Ax.callB gvb 100000 41 [.pointer (some ⟨1000, 0, none⟩)] 1001 { h := Ax.Tr.nil.set 1000 (.cells zeroJ false), nx := 1001 }).map (·.1) = some (.pointer none) := by kernel_rfl
theorem copy_nil  (w : World) (hs : gvb.ng ≤ w.heap.size) : Calls Tryz.prog 41 #[.pointer none] w fun e w' => e = .returned (.pointer none) ∧ Below w.heap.size w w' :=
  nil_call (by kernel_rfl) copy_nilrun hs (sym := (fun _ => none)) (.cons _ _ _ _ .nilp (.nil))
theorem copy_zero  (w : World) (hs : gvb.ng ≤ w.heap.size) {p : Nat} {arr : Array Value} {ty : TypeId} {fr : Nat × Nat} (hp : w.heap[p]? = some (.cells arr ty fr)) (harr : arr.toList = zeroJ) : Calls Tryz.prog 41 #[.pointer (some ⟨p, 0, none⟩)] w fun e w' => e = .returned (.pointer none) ∧ Below w.heap.size w w' :=
  zero_call (by kernel_rfl) (by kernel_rfl) copy_zerorun hs hp (by rw [harr]; rfl) (by rw [← Array.length_toList, harr]; exact Nat.le_refl _) (sym := (fun _ => none)) (.cons _ _ _ _ (.ptr _ _ _ _ (Ez_here _ _ _ _)) (.nil))
end Go.Proofs.YtolfflaenjcpcaaGreatDoor
