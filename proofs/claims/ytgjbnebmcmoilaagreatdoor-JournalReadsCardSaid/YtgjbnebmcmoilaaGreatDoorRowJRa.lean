/-
  JournalReads returns true, whatever the input, and its arguments read behind the call as before. Conditions: the row's own (the listed tables of Go's library start as the program's text lays them: tied by the card).
-/
import Derived.Test.YtgjbnebmcmoilaaGreatDoorRx
import Derived.Test.YtgjbnebmcmoilaaGreatDoorVh
namespace Go.Proofs.YtgjbnebmcmoilaaGreatDoor.journalReadsLaw
set_option linter.unusedVariables false
set_option linter.unusedSimpArgs false
open Go.ChangeShapes Go.WideShapes Go.ChangeAt Go.RowKit Go.ChangeMaps

set_option maxRecDepth 100000 in
theorem contract (H : Type) (enc : TypeId × Value → H) (W : World) (base : Nat) (args : Array Value) (ds gs : List (DataW H)) (before : List MemPlace)
    (hval : ∀ (j : Nat) t v, Tryz.f4.params[j]? = some t → args[j]? = some v → Value.okWide Tryz.prog W .any base t v)
    (hW : DataW.Whole enc Tryz.prog Tryz.f4.params.toList Rows.journalReadsSpec.vars false W args.toList ds gs before) (hE : Env1 W) :
    Calls Tryz.prog 4 args W fun e W' => ∃ v, e = .returned v ∧ Rows.journalReadsSpec.post enc Tryz.prog Tryz.f4 false true false false W args v W' := by
  have hW' := hW
  obtain ⟨p, q, hA0, hV, rfl, hfz, hnd⟩ := hW
  have hA : DataW.TrodAll enc Tryz.prog W 0 (fun _ => true) true Tryz.f4.params.toList args.toList ds p := hA0
  rw [Tryz.params4] at hA hval
  obtain ⟨v0, vs0, d0, ds0, p0, q0, hargs0, rfl, rfl, h0, r0⟩ := trodAll_cons hA
  obtain ⟨v1, vs1, d1, ds1, p1, q1, hargs1, rfl, rfl, h1, r1⟩ := trodAll_cons r0
  obtain ⟨v2, vs2, d2, ds2, p2, q2, hargs2, rfl, rfl, h2, r2⟩ := trodAll_cons r1
  obtain ⟨v3, vs3, d3, ds3, p3, q3, hargs3, rfl, rfl, h3, r3⟩ := trodAll_cons r2
  obtain ⟨v4, vs4, d4, ds4, p4, q4, hargs4, rfl, rfl, h4, r4⟩ := trodAll_cons r3
  obtain ⟨e1, rfl, rfl⟩ := trodAll_nil r4
  obtain rfl : args = #[v0, v1, v2, v3, v4] := by cases args; simp_all
  obtain ⟨rfl, rfl⟩ := trodVars_none hV
  obtain ⟨cr0, cs0, ci0, co0, rfl⟩ := open_nconf (hval 0 28 v0 rfl rfl) h0
  obtain ⟨l1, hl1⟩ := open_bytesf (hval 1 31 v1 rfl rfl) h1
  obtain ⟨l2, hl2, hc2⟩ := open_callsd (hval 2 30 v2 rfl rfl) h2
  obtain ⟨n3, rfl, hd3, _, wf3⟩ := open_int Tryz.underlying49 (hval 3 49 v3 rfl rfl) h3
  obtain ⟨n4, rfl, hd4, _, wf4⟩ := open_int Tryz.underlying49 (hval 4 49 v4 rfl rfl) h4
  simp only [List.append_nil] at hW'
  refine (jreads_any cr0 cs0 ci0 co0 v1 l1 v2 l2 n3 n4 W hl1 hl2 hc2 wf3 wf4 hE).mono fun e W' ⟨he, hB⟩ => ?_
  subst he
  have kk0 := Below.trod nlaidOut (by kernel_rfl) (of_decide_eq_true (by kernel_rfl)) h0 hB (fun x hx => hW'.lt x (List.mem_append_left _ hx))
  have kk1 := Below.trod nlaidOut (by kernel_rfl) (of_decide_eq_true (by kernel_rfl)) h1 hB (fun x hx => hW'.lt x (List.mem_append_right _ (List.mem_append_left _ hx)))
  have kk2 := Below.trod nlaidOut (by kernel_rfl) (of_decide_eq_true (by kernel_rfl)) h2 hB (fun x hx => hW'.lt x (List.mem_append_right _ (List.mem_append_right _ (List.mem_append_left _ hx))))
  have kk3 := Below.trod nlaidOut (by kernel_rfl) (of_decide_eq_true (by kernel_rfl)) h3 hB (fun x hx => hW'.lt x (List.mem_append_right _ (List.mem_append_right _ (List.mem_append_right _ (List.mem_append_left _ hx)))))
  have kk4 := Below.trod nlaidOut (by kernel_rfl) (of_decide_eq_true (by kernel_rfl)) h4 hB (fun x hx => hW'.lt x (List.mem_append_right _ (List.mem_append_right _ (List.mem_append_right _ (List.mem_append_right _ (hx))))))
  have e1 : Rows.journalReadsSpec.fn H ([d0, d1, d2, d3, d4] ++ []) = { results := [.lit (.bool true)], args := [d0, d1, d2, d3, d4] } := rfl
  refine ⟨_, rfl, _, _, _, [], (p0 ++ (p1 ++ (p2 ++ (p3 ++ (p4 ++ ([])))))), [], hW', ?_, ?_, ?_, hB.frame _, fun h => by cases h⟩
  · rw [e1]; exact trodAll_mk1 (shut_bool Tryz.underlying4 true)
  · rw [e1]; exact trodAll_cons_mk kk0 (trodAll_cons_mk kk1 (trodAll_cons_mk kk2 (trodAll_cons_mk kk3 (trodAll_cons_mk kk4 trodAll_mk0))))
  · rw [e1]; rfl

theorem laid_met (os : Os) : laidMet Tryz.prog Rows.journalReadsRow.laid ((nlaidWorld os).forCall (fun _ _ => 0) ⟨#[], #[.agg #[.int .i64 0, .int .i64 0, .int .i64 0, .int .i64 0], .slice none 0 0, .slice none 0 0, .int .u16 0, .int .u16 0], []⟩).memory :=
  laidMet_of_run' 8 (by kernel_rfl) (by kernel_rfl)
theorem reads (os : Os) {H : Type} (enc : TypeId × Value → H) : ∃ places, DataW.whole enc Tryz.prog ((nlaidWorld os).forCall (fun _ _ => 0) ⟨#[], #[.agg #[.int .i64 0, .int .i64 0, .int .i64 0, .int .i64 0], .slice none 0 0, .slice none 0 0, .int .u16 0, .int .u16 0], []⟩).memory Tryz.f4.params.toList Rows.journalReadsSpec.vars false #[Value.agg #[.int .i64 0, .int .i64 0, .int .i64 0, .int .i64 0], Value.slice none 0 0, Value.slice none 0 0, Value.int .u16 0, Value.int .u16 0].toList 8 = some ([.agg [.lit (.int .i64 0), .lit (.int .i64 0), .lit (.int .i64 0), .lit (.int .i64 0)], .nil, .nil, .lit (.int .u16 0), .lit (.int .u16 0)], [], places) :=
  ⟨[], by kernel_rfl⟩

set_option maxRecDepth 100000 in
theorem lifted (os : Os) (started : os.Started) (H : Type) (enc : TypeId × Value → H) (F : Stop.Interp) :
    ReturnsInHanded {} Tryz.checked os 4 .any ((OpenSpec.ofChange Rows.journalReadsSpec).preRow enc Tryz.prog Tryz.f4 Rows.journalReadsRow.domain false Rows.journalReadsRow.laid) (((OpenSpec.ofChange Rows.journalReadsSpec).at F).post enc Tryz.prog Tryz.f4 false true false false) := by
  obtain ⟨places, hx⟩ := reads os enc
  refine returnsInHanded_of_row (C := Tryz.checked) (s := OpenSpec.ofChange Rows.journalReadsSpec) nown started (by kernel_rfl) Tryz.func4
    (witness_row_at (enc := enc) (C := Tryz.checked) false (nlaidWorld os) #[.agg #[.int .i64 0, .int .i64 0, .int .i64 0, .int .i64 0], .slice none 0 0, .slice none 0 0, .int .u16 0, .int .u16 0] rfl (by kernel_rfl) (by kernel_rfl) (by kernel_rfl)
      (OpenSpec.preRow_of_cond 8 hx (by kernel_rfl) (fun k hk => by cases hk) (by kernel_rfl) (laid_met os))) ?_
  intro W base args ds gs before hval hW _ _ _ hL hsh _
  have hE : Env1 W := env1_of (laid := Rows.journalReadsRow.laid) hL hsh (by simp [Rows.journalReadsRow]) (by simp [Rows.journalReadsRow])
  exact contract H enc W base args ds gs before hval hW hE

end Go.Proofs.YtgjbnebmcmoilaaGreatDoor.journalReadsLaw
