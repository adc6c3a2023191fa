/- The methods of a node that is nil or zero. -/
import Derived.Test.YtolfflaenjcpcaaGreatDoorNy
set_option linter.unusedVariables false
set_option linter.unusedSimpArgs false
namespace Go.Proofs.YtolfflaenjcpcaaGreatDoor
open Go.RowKit
def zeroR : List Value := [.int .i64 0, .int .i64 0, .int .i64 0, .int .i64 0, .pointer none, .pointer none, .pointer none, .pointer none, .bool false]
set_option maxRecDepth 100000 in
theorem rget_nilrun : (Ax.callB gvb 100000 9 [.pointer none, .chan (some 7)] 1000 { h := .nil, nx := 1000 }).map (·.1) = some (.tuple ⟨[.agg ⟨[.int .i64 0, .slice none 0 0, .slice none 0 0, .slice none 0 0]⟩, .int .i64 1]⟩) := by kernel_rfl
set_option maxRecDepth 100000 in
theorem rget_zerorun : (Ax.callB gvb 100000 9 [.pointer (some ⟨1000, 0, none⟩), .chan (some 7)] 1001 { h := Ax.Tr.nil.set 1000 (.cells zeroR false), nx := 1001 }).map (·.1) = some (.tuple ⟨[.agg ⟨[.int .i64 0, .slice none 0 0, .slice none 0 0, .slice none 0 0]⟩, .int .i64 1]⟩) := by kernel_rfl
theorem rget_nil (s : ByteArray) (w : World) (hs : gvb.ng ≤ w.heap.size) : Calls Tryz.prog 9 #[.pointer none, .string s] w fun e w' => e = .returned (.tuple ⟨[.agg ⟨[.int .i64 0, .slice none 0 0, .slice none 0 0, .slice none 0 0]⟩, .int .i64 1]⟩) ∧ Below w.heap.size w w' :=
  nil_call2 (by kernel_rfl) rget_nilrun hs (sym := (fun i => if i = 7 then some (.string s) else none)) (.cons _ _ _ _ .nilp (.cons _ _ _ _ (.sym 7 _ rfl rfl) (.nil)))
theorem rget_zero (s : ByteArray) (w : World) (hs : gvb.ng ≤ w.heap.size) {p : Nat} {arr : Array Value} {ty : TypeId} {fr : Nat × Nat} (hp : w.heap[p]? = some (.cells arr ty fr)) (harr : arr.toList = zeroR) : Calls Tryz.prog 9 #[.pointer (some ⟨p, 0, none⟩), .string s] w fun e w' => e = .returned (.tuple ⟨[.agg ⟨[.int .i64 0, .slice none 0 0, .slice none 0 0, .slice none 0 0]⟩, .int .i64 1]⟩) ∧ Below w.heap.size w w' :=
  zero_call2 (by kernel_rfl) (by kernel_rfl) rget_zerorun hs hp (by rw [harr]; rfl) (by rw [← Array.length_toList, harr]; exact Nat.le_refl _) (sym := (fun i => if i = 7 then some (.string s) else none)) (.cons _ _ _ _ (.ptr _ _ _ _ (Ez_here _ _ _ _)) (.cons _ _ _ _ (.sym 7 _ rfl rfl) (.nil)))
set_option maxRecDepth 100000 in
theorem rans_nilrun : (Ax.callB gvb 100000 10 [.pointer none, .agg ⟨[.chan (some 0), .chan (some 1), .chan (some 2), .chan (some 3), .chan (some 4), .chan (some 5)]⟩, .agg ⟨[.int .i64 0, .int .i64 0, .int .i64 0, .slice none 0 0, .slice none 0 0]⟩, .int .i64 1] 1000 { h := .nil, nx := 1000 }).map (·.1) = some (.bool true) := by kernel_rfl
set_option maxRecDepth 100000 in
theorem rans_zerorun : (Ax.callB gvb 100000 10 [.pointer (some ⟨1000, 0, none⟩), .agg ⟨[.chan (some 0), .chan (some 1), .chan (some 2), .chan (some 3), .chan (some 4), .chan (some 5)]⟩, .agg ⟨[.int .i64 0, .int .i64 0, .int .i64 0, .slice none 0 0, .slice none 0 0]⟩, .int .i64 1] 1001 { h := Ax.Tr.nil.set 1000 (.cells zeroR false), nx := 1001 }).map (·.1) = some (.bool true) := by kernel_rfl
theorem rans_nil (o q : Int) (k t j : ByteArray) (A : Option Addr) (n c : Nat) (w : World) (hs : gvb.ng ≤ w.heap.size) : Calls Tryz.prog 10 #[.pointer none, .agg #[.int .i64 o, .string k, .string t, .string j, .int .i64 q, .slice A n c], .agg #[.int .i64 0, .int .i64 0, .int .i64 0, .slice none 0 0, .slice none 0 0], .int .i64 1] w fun e w' => e = .returned (.bool true) ∧ Below w.heap.size w w' :=
  nil_call2 (by kernel_rfl) rans_nilrun hs (sym := (fun i => match i with | 0 => some (.int .i64 o) | 1 => some (.string k) | 2 => some (.string t) | 3 => some (.string j) | 4 => some (.int .i64 q) | 5 => some (.slice A n c) | _ => none)) (.cons _ _ _ _ .nilp (.cons _ _ _ _ (.agg _ _ (.cons _ _ _ _ (.sym 0 _ rfl rfl) (.cons _ _ _ _ (.sym 1 _ rfl rfl) (.cons _ _ _ _ (.sym 2 _ rfl rfl) (.cons _ _ _ _ (.sym 3 _ rfl rfl) (.cons _ _ _ _ (.sym 4 _ rfl rfl) (.cons _ _ _ _ (.sym 5 _ rfl rfl) (.nil)))))))) (.cons _ _ _ _ (.agg _ _ (.cons _ _ _ _ (.int _ _) (.cons _ _ _ _ (.int _ _) (.cons _ _ _ _ (.int _ _) (.cons _ _ _ _ (.nils _ _) (.cons _ _ _ _ (.nils _ _) (.nil))))))) (.cons _ _ _ _ (.int _ _) (.nil)))))
theorem rans_zero (o q : Int) (k t j : ByteArray) (A : Option Addr) (n c : Nat) (w : World) (hs : gvb.ng ≤ w.heap.size) {p : Nat} {arr : Array Value} {ty : TypeId} {fr : Nat × Nat} (hp : w.heap[p]? = some (.cells arr ty fr)) (harr : arr.toList = zeroR) : Calls Tryz.prog 10 #[.pointer (some ⟨p, 0, none⟩), .agg #[.int .i64 o, .string k, .string t, .string j, .int .i64 q, .slice A n c], .agg #[.int .i64 0, .int .i64 0, .int .i64 0, .slice none 0 0, .slice none 0 0], .int .i64 1] w fun e w' => e = .returned (.bool true) ∧ Below w.heap.size w w' :=
  zero_call2 (by kernel_rfl) (by kernel_rfl) rans_zerorun hs hp (by rw [harr]; rfl) (by rw [← Array.length_toList, harr]; exact Nat.le_refl _) (sym := (fun i => match i with | 0 => some (.int .i64 o) | 1 => some (.string k) | 2 => some (.string t) | 3 => some (.string j) | 4 => some (.int .i64 q) | 5 => some (.slice A n c) | _ => none)) (.cons _ _ _ _ (.ptr _ _ _ _ (Ez_here _ _ _ _)) (.cons _ _ _ _ (.agg _ _ (.cons _ _ _ _ (.sym 0 _ rfl rfl) (.cons _ _ _ _ (.sym 1 _ rfl rfl) (.cons _ _ _ _ (.sym 2 _ rfl rfl) (.cons _ _ _ _ (.sym 3 _ rfl rfl) (.cons _ _ _ _ (.sym 4 _ rfl rfl) (.cons _ _ _ _ (.sym 5 _ rfl rfl) (.nil)))))))) (.cons _ _ _ _ (.agg _ _ (.cons _ _ _ _ (.int _ _) (.cons _ _ _ _ (.int _ _) (.cons _ _ _ _ (.int _ _) (.cons _ _ _ _ (.nils _ _) (.cons _ _ _ _ (.nils _ _) (.nil))))))) (.cons _ _ _ _ (.int _ _) (.nil)))))
set_option maxRecDepth 100000 in
theorem rcarts_nilrun : (Ax.callB gvb 100000 12 [.pointer none] 1000 { h := .nil, nx := 1000 }).map (·.1) = some (.slice none 0 0) := by kernel_rfl
set_option maxRecDepth 100000 in
theorem rcarts_zerorun : (Ax.callB gvb 100000 12 [.pointer (some ⟨1000, 0, none⟩)] 1001 { h := Ax.Tr.nil.set 1000 (.cells zeroR false), nx := 1001 }).map (·.1) = some (.slice none 0 0) := by kernel_rfl
theorem rcarts_nil  (w : World) (hs : gvb.ng ≤ w.heap.size) : Calls Tryz.prog 12 #[.pointer none] w fun e w' => e = .returned (.slice none 0 0) ∧ Below w.heap.size w w' :=
  nil_call2 (by kernel_rfl) rcarts_nilrun hs (sym := (fun _ => none)) (.cons _ _ _ _ .nilp (.nil))
theorem rcarts_zero  (w : World) (hs : gvb.ng ≤ w.heap.size) {p : Nat} {arr : Array Value} {ty : TypeId} {fr : Nat × Nat} (hp : w.heap[p]? = some (.cells arr ty fr)) (harr : arr.toList = zeroR) : Calls Tryz.prog 12 #[.pointer (some ⟨p, 0, none⟩)] w fun e w' => e = .returned (.slice none 0 0) ∧ Below w.heap.size w w' :=
  zero_call2 (by kernel_rfl) (by kernel_rfl) rcarts_zerorun hs hp (by rw [harr]; rfl) (by rw [← Array.length_toList, harr]; exact Nat.le_refl _) (sym := (fun _ => none)) (.cons _ _ _ _ (.ptr _ _ _ _ (Ez_here _ _ _ _)) (.nil))
set_option maxRecDepth 100000 in
theorem rroom_nilrun : (Ax.callB gvb 100000 13 [.pointer none] 1000 { h := .nil, nx := 1000 }).map (·.1) = some (.int .i64 0) := by kernel_rfl
set_option maxRecDepth 100000 in
theorem rroom_zerorun : (Ax.callB gvb 100000 13 [.pointer (some ⟨1000, 0, none⟩)] 1001 { h := Ax.Tr.nil.set 1000 (.cells zeroR false), nx := 1001 }).map (·.1) = some (.int .i64 0) := by kernel_rfl
theorem rroom_nil  (w : World) (hs : gvb.ng ≤ w.heap.size) : Calls Tryz.prog 13 #[.pointer none] w fun e w' => e = .returned (.int .i64 0) ∧ Below w.heap.size w w' :=
  nil_call2 (by kernel_rfl) rroom_nilrun hs (sym := (fun _ => none)) (.cons _ _ _ _ .nilp (.nil))
theorem rroom_zero  (w : World) (hs : gvb.ng ≤ w.heap.size) {p : Nat} {arr : Array Value} {ty : TypeId} {fr : Nat × Nat} (hp : w.heap[p]? = some (.cells arr ty fr)) (harr : arr.toList = zeroR) : Calls Tryz.prog 13 #[.pointer (some ⟨p, 0, none⟩)] w fun e w' => e = .returned (.int .i64 0) ∧ Below w.heap.size w w' :=
  zero_call2 (by kernel_rfl) (by kernel_rfl) rroom_zerorun hs hp (by rw [harr]; rfl) (by rw [← Array.length_toList, harr]; exact Nat.le_refl _) (sym := (fun _ => none)) (.cons _ _ _ _ (.ptr _ _ _ _ (Ez_here _ _ _ _)) (.nil))
set_option maxRecDepth 100000 in
theorem rlast_nilrun : (Ax.callB gvb 100000 14 [.pointer none] 1000 { h := .nil, nx := 1000 }).map (·.1) = some (.int .i64 0) := by kernel_rfl
set_option maxRecDepth 100000 in
theorem rlast_zerorun : (Ax.callB gvb 100000 14 [.pointer (some ⟨1000, 0, none⟩)] 1001 { h := Ax.Tr.nil.set 1000 (.cells zeroR false), nx := 1001 }).map (·.1) = some (.int .i64 0) := by kernel_rfl
theorem rlast_nil  (w : World) (hs : gvb.ng ≤ w.heap.size) : Calls Tryz.prog 14 #[.pointer none] w fun e w' => e = .returned (.int .i64 0) ∧ Below w.heap.size w w' :=
  nil_call2 (by kernel_rfl) rlast_nilrun hs (sym := (fun _ => none)) (.cons _ _ _ _ .nilp (.nil))
theorem rlast_zero  (w : World) (hs : gvb.ng ≤ w.heap.size) {p : Nat} {arr : Array Value} {ty : TypeId} {fr : Nat × Nat} (hp : w.heap[p]? = some (.cells arr ty fr)) (harr : arr.toList = zeroR) : Calls Tryz.prog 14 #[.pointer (some ⟨p, 0, none⟩)] w fun e w' => e = .returned (.int .i64 0) ∧ Below w.heap.size w w' :=
  zero_call2 (by kernel_rfl) (by kernel_rfl) rlast_zerorun hs hp (by rw [harr]; rfl) (by rw [← Array.length_toList, harr]; exact Nat.le_refl _) (sym := (fun _ => none)) (.cons _ _ _ _ (.ptr _ _ _ _ (Ez_here _ _ _ _)) (.nil))
set_option maxRecDepth 100000 in
theorem rclosed_nilrun : (Ax.callB gvb 100000 15 [.pointer none] 1000 { h := .nil, nx := 1000 }).map (·.1) = some (.bool false) := by kernel_rfl
set_option maxRecDepth 100000 in
theorem rclosed_zerorun : (Ax.callB gvb 100000 15 [.pointer (some ⟨1000, 0, none⟩)] 1001 { h := Ax.Tr.nil.set 1000 (.cells zeroR false), nx := 1001 }).map (·.1) = some (.bool false) := by kernel_rfl
theorem rclosed_nil  (w : World) (hs : gvb.ng ≤ w.heap.size) : Calls Tryz.prog 15 #[.pointer none] w fun e w' => e = .returned (.bool false) ∧ Below w.heap.size w w' :=
  nil_call2 (by kernel_rfl) rclosed_nilrun hs (sym := (fun _ => none)) (.cons _ _ _ _ .nilp (.nil))
theorem rclosed_zero  (w : World) (hs : gvb.ng ≤ w.heap.size) {p : Nat} {arr : Array Value} {ty : TypeId} {fr : Nat × Nat} (hp : w.heap[p]? = some (.cells arr ty fr)) (harr : arr.toList = zeroR) : Calls Tryz.prog 15 #[.pointer (some ⟨p, 0, none⟩)] w fun e w' => e = .returned (.bool false) ∧ Below w.heap.size w w' :=
  zero_call2 (by kernel_rfl) (by kernel_rfl) rclosed_zerorun hs hp (by rw [harr]; rfl) (by rw [← Array.length_toList, harr]; exact Nat.le_refl _) (sym := (fun _ => none)) (.cons _ _ _ _ (.ptr _ _ _ _ (Ez_here _ _ _ _)) (.nil))
set_option maxRecDepth 100000 in
theorem rinbox_nilrun : (Ax.callB gvb 100000 16 [.pointer none] 1000 { h := .nil, nx := 1000 }).map (·.1) = some (.slice none 0 0) := by kernel_rfl
set_option maxRecDepth 100000 in
theorem rinbox_zerorun : (Ax.callB gvb 100000 16 [.pointer (some ⟨1000, 0, none⟩)] 1001 { h := Ax.Tr.nil.set 1000 (.cells zeroR false), nx := 1001 }).map (·.1) = some (.slice none 0 0) := by kernel_rfl
theorem rinbox_nil  (w : World) (hs : gvb.ng ≤ w.heap.size) : Calls Tryz.prog 16 #[.pointer none] w fun e w' => e = .returned (.slice none 0 0) ∧ Below w.heap.size w w' :=
  nil_call2 (by kernel_rfl) rinbox_nilrun hs (sym := (fun _ => none)) (.cons _ _ _ _ .nilp (.nil))
theorem rinbox_zero  (w : World) (hs : gvb.ng ≤ w.heap.size) {p : Nat} {arr : Array Value} {ty : TypeId} {fr : Nat × Nat} (hp : w.heap[p]? = some (.cells arr ty fr)) (harr : arr.toList = zeroR) : Calls Tryz.prog 16 #[.pointer (some ⟨p, 0, none⟩)] w fun e w' => e = .returned (.slice none 0 0) ∧ Below w.heap.size w w' :=
  zero_call2 (by kernel_rfl) (by kernel_rfl) rinbox_zerorun hs hp (by rw [harr]; rfl) (by rw [← Array.length_toList, harr]; exact Nat.le_refl _) (sym := (fun _ => none)) (.cons _ _ _ _ (.ptr _ _ _ _ (Ez_here _ _ _ _)) (.nil))
set_option maxRecDepth 100000 in
theorem rdeltas_nilrun : (Ax.callB gvb 100000 17 [.pointer none] 1000 { h := .nil, nx := 1000 }).map (·.1) = some (.slice none 0 0) := by kernel_rfl
set_option maxRecDepth 100000 in
theorem rdeltas_zerorun : (Ax.callB gvb 100000 17 [.pointer (some ⟨1000, 0, none⟩)] 1001 { h := Ax.Tr.nil.set 1000 (.cells zeroR false), nx := 1001 }).map (·.1) = some (.slice none 0 0) := by kernel_rfl
theorem rdeltas_nil  (w : World) (hs : gvb.ng ≤ w.heap.size) : Calls Tryz.prog 17 #[.pointer none] w fun e w' => e = .returned (.slice none 0 0) ∧ Below w.heap.size w w' :=
  nil_call2 (by kernel_rfl) rdeltas_nilrun hs (sym := (fun _ => none)) (.cons _ _ _ _ .nilp (.nil))
theorem rdeltas_zero  (w : World) (hs : gvb.ng ≤ w.heap.size) {p : Nat} {arr : Array Value} {ty : TypeId} {fr : Nat × Nat} (hp : w.heap[p]? = some (.cells arr ty fr)) (harr : arr.toList = zeroR) : Calls Tryz.prog 17 #[.pointer (some ⟨p, 0, none⟩)] w fun e w' => e = .returned (.slice none 0 0) ∧ Below w.heap.size w w' :=
  zero_call2 (by kernel_rfl) (by kernel_rfl) rdeltas_zerorun hs hp (by rw [harr]; rfl) (by rw [← Array.length_toList, harr]; exact Nat.le_refl _) (sym := (fun _ => none)) (.cons _ _ _ _ (.ptr _ _ _ _ (Ez_here _ _ _ _)) (.nil))
set_option maxRecDepth 100000 in
theorem rdirty_nilrun : (Ax.callB gvb 100000 18 [.pointer none] 1000 { h := .nil, nx := 1000 }).map (·.1) = some (.slice none 0 0) := by kernel_rfl
set_option maxRecDepth 100000 in
theorem rdirty_zerorun : (Ax.callB gvb 100000 18 [.pointer (some ⟨1000, 0, none⟩)] 1001 { h := Ax.Tr.nil.set 1000 (.cells zeroR false), nx := 1001 }).map (·.1) = some (.slice none 0 0) := by kernel_rfl
theorem rdirty_nil  (w : World) (hs : gvb.ng ≤ w.heap.size) : Calls Tryz.prog 18 #[.pointer none] w fun e w' => e = .returned (.slice none 0 0) ∧ Below w.heap.size w w' :=
  nil_call2 (by kernel_rfl) rdirty_nilrun hs (sym := (fun _ => none)) (.cons _ _ _ _ .nilp (.nil))
theorem rdirty_zero  (w : World) (hs : gvb.ng ≤ w.heap.size) {p : Nat} {arr : Array Value} {ty : TypeId} {fr : Nat × Nat} (hp : w.heap[p]? = some (.cells arr ty fr)) (harr : arr.toList = zeroR) : Calls Tryz.prog 18 #[.pointer (some ⟨p, 0, none⟩)] w fun e w' => e = .returned (.slice none 0 0) ∧ Below w.heap.size w w' :=
  zero_call2 (by kernel_rfl) (by kernel_rfl) rdirty_zerorun hs hp (by rw [harr]; rfl) (by rw [← Array.length_toList, harr]; exact Nat.le_refl _) (sym := (fun _ => none)) (.cons _ _ _ _ (.ptr _ _ _ _ (Ez_here _ _ _ _)) (.nil))
set_option maxRecDepth 100000 in
theorem rconfig_nilrun : (Ax.callB gvb 100000 19 [.pointer none] 1000 { h := .nil, nx := 1000 }).map (·.1) = some (.agg ⟨[.int .i64 0, .int .i64 0, .int .i64 0, .int .i64 0]⟩) := by kernel_rfl
set_option maxRecDepth 100000 in
theorem rconfig_zerorun : (Ax.callB gvb 100000 19 [.pointer (some ⟨1000, 0, none⟩)] 1001 { h := Ax.Tr.nil.set 1000 (.cells zeroR false), nx := 1001 }).map (·.1) = some (.agg ⟨[.int .i64 0, .int .i64 0, .int .i64 0, .int .i64 0]⟩) := by kernel_rfl
theorem rconfig_nil  (w : World) (hs : gvb.ng ≤ w.heap.size) : Calls Tryz.prog 19 #[.pointer none] w fun e w' => e = .returned (.agg ⟨[.int .i64 0, .int .i64 0, .int .i64 0, .int .i64 0]⟩) ∧ Below w.heap.size w w' :=
  nil_call2 (by kernel_rfl) rconfig_nilrun hs (sym := (fun _ => none)) (.cons _ _ _ _ .nilp (.nil))
theorem rconfig_zero  (w : World) (hs : gvb.ng ≤ w.heap.size) {p : Nat} {arr : Array Value} {ty : TypeId} {fr : Nat × Nat} (hp : w.heap[p]? = some (.cells arr ty fr)) (harr : arr.toList = zeroR) : Calls Tryz.prog 19 #[.pointer (some ⟨p, 0, none⟩)] w fun e w' => e = .returned (.agg ⟨[.int .i64 0, .int .i64 0, .int .i64 0, .int .i64 0]⟩) ∧ Below w.heap.size w w' :=
  zero_call2 (by kernel_rfl) (by kernel_rfl) rconfig_zerorun hs hp (by rw [harr]; rfl) (by rw [← Array.length_toList, harr]; exact Nat.le_refl _) (sym := (fun _ => none)) (.cons _ _ _ _ (.ptr _ _ _ _ (Ez_here _ _ _ _)) (.nil))
set_option maxRecDepth 100000 in
theorem rskip_nilrun : (Ax.callB gvb 100000 20 [.pointer none, .chan (some 9)] 1000 { h := .nil, nx := 1000 }).map (·.1) = some (.int .i64 1) := by kernel_rfl
set_option maxRecDepth 100000 in
theorem rskip_zerorun : (Ax.callB gvb 100000 20 [.pointer (some ⟨1000, 0, none⟩), .chan (some 9)] 1001 { h := Ax.Tr.nil.set 1000 (.cells zeroR false), nx := 1001 }).map (·.1) = some (.int .i64 1) := by kernel_rfl
theorem rskip_nil (x : Int) (w : World) (hs : gvb.ng ≤ w.heap.size) : Calls Tryz.prog 20 #[.pointer none, .int .i64 x] w fun e w' => e = .returned (.int .i64 1) ∧ Below w.heap.size w w' :=
  nil_call2 (by kernel_rfl) rskip_nilrun hs (sym := (fun i => if i = 9 then some (.int .i64 x) else none)) (.cons _ _ _ _ .nilp (.cons _ _ _ _ (.sym 9 _ rfl rfl) (.nil)))
theorem rskip_zero (x : Int) (w : World) (hs : gvb.ng ≤ w.heap.size) {p : Nat} {arr : Array Value} {ty : TypeId} {fr : Nat × Nat} (hp : w.heap[p]? = some (.cells arr ty fr)) (harr : arr.toList = zeroR) : Calls Tryz.prog 20 #[.pointer (some ⟨p, 0, none⟩), .int .i64 x] w fun e w' => e = .returned (.int .i64 1) ∧ Below w.heap.size w w' :=
  zero_call2 (by kernel_rfl) (by kernel_rfl) rskip_zerorun hs hp (by rw [harr]; rfl) (by rw [← Array.length_toList, harr]; exact Nat.le_refl _) (sym := (fun i => if i = 9 then some (.int .i64 x) else none)) (.cons _ _ _ _ (.ptr _ _ _ _ (Ez_here _ _ _ _)) (.cons _ _ _ _ (.sym 9 _ rfl rfl) (.nil)))
set_option maxRecDepth 100000 in
theorem rcopy_nilrun : (Ax.callB gvb 100000 21 [.pointer none] 1000 { h := .nil, nx := 1000 }).map (·.1) = some (.pointer none) := by kernel_rfl
set_option maxRecDepth 100000 in
theorem rcopy_zerorun : (Ax.callB gvb 100000 21 [.pointer (some ⟨1000, 0, none⟩)] 1001 { h := Ax.Tr.nil.set 1000 (.cells zeroR false), nx := 1001 }).map (·.1) = some (.pointer none) := by kernel_rfl
theorem rcopy_nil  (w : World) (hs : gvb.ng ≤ w.heap.size) : Calls Tryz.prog 21 #[.pointer none] w fun e w' => e = .returned (.pointer none) ∧ Below w.heap.size w w' :=
  nil_call2 (by kernel_rfl) rcopy_nilrun hs (sym := (fun _ => none)) (.cons _ _ _ _ .nilp (.nil))
theorem rcopy_zero  (w : World) (hs : gvb.ng ≤ w.heap.size) {p : Nat} {arr : Array Value} {ty : TypeId} {fr : Nat × Nat} (hp : w.heap[p]? = some (.cells arr ty fr)) (harr : arr.toList = zeroR) : Calls Tryz.prog 21 #[.pointer (some ⟨p, 0, none⟩)] w fun e w' => e = .returned (.pointer none) ∧ Below w.heap.size w w' :=
  zero_call2 (by kernel_rfl) (by kernel_rfl) rcopy_zerorun hs hp (by rw [harr]; rfl) (by rw [← Array.length_toList, harr]; exact Nat.le_refl _) (sym := (fun _ => none)) (.cons _ _ _ _ (.ptr _ _ _ _ (Ez_here _ _ _ _)) (.nil))
set_option maxRecDepth 100000 in
theorem rsame_run : (Ax.callB gvb 100000 11 [.agg ⟨[.slice none 0 0, .slice none 0 0, .slice none 0 0]⟩, .agg ⟨[.slice none 0 0, .slice none 0 0, .slice none 0 0]⟩] 1000 { h := .nil, nx := 1000 }).map (·.1) = some (.bool true) := by kernel_rfl
theorem rsame (w : World) (hs : gvb.ng ≤ w.heap.size) : Calls Tryz.prog 11 #[.agg #[.slice none 0 0, .slice none 0 0, .slice none 0 0], .agg #[.slice none 0 0, .slice none 0 0, .slice none 0 0]] w fun e w' => e = .returned (.bool true) ∧ Below w.heap.size w w' :=
  nil_call2 (by kernel_rfl) rsame_run hs (sym := fun _ => none) (.cons _ _ _ _ (.agg _ _ (.cons _ _ _ _ (.nils _ _) (.cons _ _ _ _ (.nils _ _) (.cons _ _ _ _ (.nils _ _) .nil)))) (.cons _ _ _ _ (.agg _ _ (.cons _ _ _ _ (.nils _ _) (.cons _ _ _ _ (.nils _ _) (.cons _ _ _ _ (.nils _ _) .nil)))) .nil))
end Go.Proofs.YtolfflaenjcpcaaGreatDoor
