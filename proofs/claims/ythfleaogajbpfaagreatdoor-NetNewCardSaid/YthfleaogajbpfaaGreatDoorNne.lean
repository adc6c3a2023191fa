/- same at new nets: true. -/
import Derived.Test.YthfleaogajbpfaaGreatDoorNnd
import Derived.Test.YthfleaogajbpfaaGreatDoorRnh
set_option linter.unusedVariables false
set_option linter.unusedSimpArgs false
namespace Go.Proofs.YthfleaogajbpfaaGreatDoor
open Go.RowKit Go.MapKept
/-- both new nets, behind a world b -/
structure SN (b W : World) (N g cap R gr capr K : Nat) (ps ms : List Nat) (S : Nat) (i o : Int) : Prop where
  bel : Below b.heap.size b W
  na : NA W N g cap K ps S i o
  ra : RA W R gr capr K ms S i o
  env : Env W
theorem SN.after {b W W' : World} {N g cap R gr capr K : Nat} {ps ms : List Nat} {S : Nat} {i o : Int} (hb : Below W.heap.size W W') (h : SN b W N g cap R gr capr K ps ms S i o) : SN b W' N g cap R gr capr K ps ms S i o := ⟨nbl_step h.bel hb, h.na.below hb, h.ra.below hb, h.env.below hb⟩
theorem SN.all {b W : World} {N g cap R gr capr K : Nat} {ps ms : List Nat} {S : Nat} {i o : Int} (h : SN b W N g cap R gr capr K ps ms S i o) : Hid (SN b W N g cap R gr capr K ps ms S i o) ∧ W.cell? ⟨R, 0, none⟩ = some (.slice (some ⟨gr, 0, none⟩) K capr) ∧ W.cell? ⟨R, 1, none⟩ = some (.slice none 0 0) ∧ W.cell? ⟨R, 2, none⟩ = some (.slice none 0 0) := ⟨Lib.hid h, h.ra.n0, h.ra.n1, h.ra.n2⟩
/-- and a node's copy X and a node m of the reference -/
structure SX (b W : World) (N g cap R gr capr K : Nat) (ps ms : List Nat) (S : Nat) (i o : Int) (j X m : Nat) : Prop where
  sn : SN b W N g cap R gr capr K ps ms S i o
  nx : ∃ t g d n u, NodeNew W X t g d n u ((j : Int) + 1) S i o
  rx : ∃ tt u, RefNew W m tt u ((j : Int) + 1) S i o
theorem SX.after {b W W' : World} {N g cap R gr capr K : Nat} {ps ms : List Nat} {S : Nat} {i o : Int} {j X m : Nat} (hb : Below W.heap.size W W') (h : SX b W N g cap R gr capr K ps ms S i o j X m) : SX b W' N g cap R gr capr K ps ms S i o j X m := by
  obtain ⟨h1, ⟨t, g', d, n, u, h2⟩, ⟨tt, u2, h3⟩⟩ := h
  exact ⟨h1.after hb, ⟨t, g', d, n, u, h2.below hb⟩, ⟨tt, u2, h3.below hb⟩⟩
set_option maxRecDepth 1000000 in
set_option maxHeartbeats 16000000 in
theorem same_new (b w : World) {N g cap R gr capr K : Nat} {ps ms : List Nat} {S : Nat} {i o : Int} (hK : 1 ≤ K) (hK2 : K ≤ 16) (hP : okP S i o = true) (h : SN b w N g cap R gr capr K ps ms S i o) : Calls Tryz.prog 13 #[.pointer (some ⟨N, 0, none⟩), .pointer (some ⟨R, 0, none⟩)] w fun e w' => e = .returned (.bool true) ∧ Below b.heap.size b w' := by
  have HPackets : Hid (∀ W, SN b W N g cap R gr capr K ps ms S i o → Calls Tryz.prog 44 #[.pointer (some ⟨N, 0, none⟩)] W fun e w' => e = .returned (.int .i64 0) ∧ Below W.heap.size W w') := Lib.hid (fun W h => (packets_na hK hK2 h.na).mono fun e w' ⟨h1, h2⟩ => ⟨h1, by rw [h2]; exact Below.refl _ _⟩)
  have HNodes : Hid (∀ W, SN b W N g cap R gr capr K ps ms S i o → Calls Tryz.prog 47 #[.pointer (some ⟨N, 0, none⟩)] W fun e w' => e = .returned (.int .i64 (K : Int)) ∧ Below W.heap.size W w') := Lib.hid (fun W h => (nodes_na hK hK2 h.na).mono fun e w' ⟨h1, h2⟩ => ⟨h1, by rw [h2]; exact Below.refl _ _⟩)
  have HNone : Hid (∀ W (q : Int), (q < 0 ∨ (K : Int) ≤ q) → SN b W N g cap R gr capr K ps ms S i o → Calls Tryz.prog 48 #[.pointer (some ⟨N, 0, none⟩), .int .i64 q] W fun e w' => e = .returned (.pointer none) ∧ Below W.heap.size W w') := Lib.hid (fun W q hq h => node_none hK hK2 h.na q hq)
  have HPacket : Hid (∀ W (q : Int), SN b W N g cap R gr capr K ps ms S i o → Calls Tryz.prog 49 #[.pointer (some ⟨N, 0, none⟩), .int .i64 q] W fun e w' => e = .returned (.tuple #[.slice none 0 0, .int .i64 3]) ∧ Below W.heap.size W w') := Lib.hid (fun W q h => (packet_na hK hK2 h.na q).mono fun e w' ⟨h1, h2⟩ => ⟨h1, by rw [h2]; exact Below.refl _ _⟩)
  have HFrom : Hid (∀ W (q : Int), SN b W N g cap R gr capr K ps ms S i o → Calls Tryz.prog 45 #[.pointer (some ⟨N, 0, none⟩), .int .i64 q] W fun e w' => e = .returned (.tuple #[.int .i64 0, .int .i64 3]) ∧ Below W.heap.size W w') := Lib.hid (fun W q h => (from_na hK hK2 h.na q).mono fun e w' ⟨h1, h2⟩ => ⟨h1, by rw [h2]; exact Below.refl _ _⟩)
  have HNode : Hid (∀ W (q : Nat), q < K → SN b W N g cap R gr capr K ps ms S i o → Calls Tryz.prog 48 #[.pointer (some ⟨N, 0, none⟩), .int .i64 (q : Int)] W fun e w' => (∃ X, e = .returned (.pointer (some ⟨X, 0, none⟩)) ∧ ∃ t g d n u, NodeNew w' X t g d n u ((q : Int) + 1) S i o) ∧ Below W.heap.size W w') := Lib.hid (fun W q hq h => (node_some hK hK2 h.na hP q hq).mono fun e w' ⟨⟨X, t, g', d, n, u, h1, h2⟩, h3⟩ => ⟨⟨X, h1, t, g', d, n, u, h2⟩, h3⟩)
  have XLast : Hid (∀ W j X m, j < 16 → SX b W N g cap R gr capr K ps ms S i o j X m → Calls Tryz.prog 20 #[.pointer (some ⟨X, 0, none⟩)] W fun e w' => e = .returned (.int .i64 0) ∧ Below W.heap.size W w') := Lib.hid (fun W j X m hj h => by
    obtain ⟨t, g', d, n, u, hn⟩ := h.nx
    exact (last_new hn (okN_at hP hj)).mono fun e w' ⟨h1, h2⟩ => ⟨h1, by rw [h2]; exact Below.refl _ _⟩)
  have XClosed : Hid (∀ W j X m, j < 16 → SX b W N g cap R gr capr K ps ms S i o j X m → Calls Tryz.prog 24 #[.pointer (some ⟨X, 0, none⟩)] W fun e w' => e = .returned (.bool false) ∧ Below W.heap.size W w') := Lib.hid (fun W j X m hj h => by
    obtain ⟨t, g', d, n, u, hn⟩ := h.nx
    exact (closed_new hn (okN_at hP hj)).mono fun e w' ⟨h1, h2⟩ => ⟨h1, by rw [h2]; exact Below.refl _ _⟩)
  have XConfig : Hid (∀ W j X m, j < 16 → SX b W N g cap R gr capr K ps ms S i o j X m → Calls Tryz.prog 26 #[.pointer (some ⟨X, 0, none⟩)] W fun e w' => e = .returned (.agg #[.int .i64 ((j : Int) + 1), .int .i64 (S : Int), .int .i64 i, .int .i64 o]) ∧ Below W.heap.size W w') := Lib.hid (fun W j X m hj h => by
    obtain ⟨t, g', d, n, u, hn⟩ := h.nx
    exact config_new hn (okN_at hP hj))
  have XInbox : Hid (∀ W j X m, j < 16 → SX b W N g cap R gr capr K ps ms S i o j X m → Calls Tryz.prog 28 #[.pointer (some ⟨X, 0, none⟩)] W fun e w' => e = .returned (.slice none 0 0) ∧ Below W.heap.size W w') := Lib.hid (fun W j X m hj h => by
    obtain ⟨t, g', d, n, u, hn⟩ := h.nx
    exact (inbox_new hn (okN_at hP hj)).mono fun e w' ⟨h1, h2⟩ => ⟨h1, by rw [h2]; exact Below.refl _ _⟩)
  have XDeltas : Hid (∀ W j X m, j < 16 → SX b W N g cap R gr capr K ps ms S i o j X m → Calls Tryz.prog 29 #[.pointer (some ⟨X, 0, none⟩)] W fun e w' => e = .returned (.slice none 0 0) ∧ Below W.heap.size W w') := Lib.hid (fun W j X m hj h => by
    obtain ⟨t, g', d, n, u, hn⟩ := h.nx
    exact (deltas_new hn (okN_at hP hj)).mono fun e w' ⟨h1, h2⟩ => ⟨h1, by rw [h2]; exact Below.refl _ _⟩)
  have XCarts : Hid (∀ W j X m, j < 16 → SX b W N g cap R gr capr K ps ms S i o j X m → Calls Tryz.prog 32 #[.pointer (some ⟨X, 0, none⟩)] W fun e w' => e = .returned (.slice none 0 0) ∧ Below W.heap.size W w') := Lib.hid (fun W j X m hj h => by
    obtain ⟨t, g', d, n, u, hn⟩ := h.nx
    exact carts_new hn (okN_at hP hj) h.sn.env)
  have RLast : Hid (∀ W j X m, SX b W N g cap R gr capr K ps ms S i o j X m → Calls Tryz.prog 53 #[.pointer (some ⟨m, 0, none⟩)] W fun e w' => e = .returned (.int .i64 0) ∧ Below W.heap.size W w') := Lib.hid (fun W j X m h => by
    obtain ⟨tt, u, hn⟩ := h.rx
    exact (rlast_new hn).mono fun e w' ⟨h1, h2⟩ => ⟨h1, by rw [h2]; exact Below.refl _ _⟩)
  have RClosed : Hid (∀ W j X m, SX b W N g cap R gr capr K ps ms S i o j X m → Calls Tryz.prog 54 #[.pointer (some ⟨m, 0, none⟩)] W fun e w' => e = .returned (.bool false) ∧ Below W.heap.size W w') := Lib.hid (fun W j X m h => by
    obtain ⟨tt, u, hn⟩ := h.rx
    exact (rclosed_new hn).mono fun e w' ⟨h1, h2⟩ => ⟨h1, by rw [h2]; exact Below.refl _ _⟩)
  have RConfig : Hid (∀ W j X m, SX b W N g cap R gr capr K ps ms S i o j X m → Calls Tryz.prog 50 #[.pointer (some ⟨m, 0, none⟩)] W fun e w' => e = .returned (.agg #[.int .i64 ((j : Int) + 1), .int .i64 (S : Int), .int .i64 i, .int .i64 o]) ∧ Below W.heap.size W w') := Lib.hid (fun W j X m h => by
    obtain ⟨tt, u, hn⟩ := h.rx
    exact rconfig_new hn)
  have RInbox : Hid (∀ W j X m, SX b W N g cap R gr capr K ps ms S i o j X m → Calls Tryz.prog 52 #[.pointer (some ⟨m, 0, none⟩)] W fun e w' => e = .returned (.slice none 0 0) ∧ Below W.heap.size W w') := Lib.hid (fun W j X m h => by
    obtain ⟨tt, u, hn⟩ := h.rx
    exact (rinbox_new hn).mono fun e w' ⟨h1, h2⟩ => ⟨h1, by rw [h2]; exact Below.refl _ _⟩)
  have RDeltas : Hid (∀ W j X m, SX b W N g cap R gr capr K ps ms S i o j X m → Calls Tryz.prog 30 #[.pointer (some ⟨m, 0, none⟩)] W fun e w' => e = .returned (.slice none 0 0) ∧ Below W.heap.size W w') := Lib.hid (fun W j X m h => by
    obtain ⟨tt, u, hn⟩ := h.rx
    exact (rdeltas_new hn).mono fun e w' ⟨h1, h2⟩ => ⟨h1, by rw [h2]; exact Below.refl _ _⟩)
  have RCarts : Hid (∀ W j X m, SX b W N g cap R gr capr K ps ms S i o j X m → Calls Tryz.prog 51 #[.pointer (some ⟨m, 0, none⟩)] W fun e w' => e = .returned (.slice none 0 0) ∧ Below W.heap.size W w') := Lib.hid (fun W j X m h => by
    obtain ⟨tt, u, hn⟩ := h.rx
    exact (rcarts_new hn).mono fun e w' ⟨h1, h2⟩ => ⟨h1, by rw [h2]; exact Below.refl _ _⟩)
  have HSame : Hid (∀ W, Calls Tryz.prog 27 #[.slice none 0 0, .slice none 0 0] W fun e w' => e = .returned (.bool true) ∧ Below W.heap.size W w') := Lib.hid (fun W => (same_nil W).mono fun e w' ⟨h1, h2⟩ => ⟨h1, by rw [h2]; exact Below.refl _ _⟩)
  have HKK := Lib.hid hK2
  have HK1 := Lib.hid hK
  have HS := Lib.hid h
  have hgu := run_guard_conf
  obtain ⟨_, r0, r1, r2⟩ := SN.all h
  clear h hP
  go_enter Tryz.func13, Tryz.ntmps13
  go_wp2_with fail
  go_region_held3 (fun w' => Hid (SN b w' N g cap R gr capr K ps ms S i o) ∧ w'.cell? ⟨R, 0, none⟩ = some (.slice (some ⟨gr, 0, none⟩) K capr) ∧ w'.cell? ⟨R, 1, none⟩ = some (.slice none 0 0) ∧ w'.cell? ⟨R, 2, none⟩ = some (.slice none 0 0)) (first | assumption | (exact SN.all (by assumption)) | (exact SN.all (SN.after (Below.refl _ _).drew (by assumption))) | (exact SN.all (SN.after (Below.refl _ _).drew HS.out))) (first | (go_at_call 44; refine (HPackets.out _ (by first | assumption | (exact (‹Hid (SN b _ N g cap R gr capr K ps ms S i o) ∧ _›).1.out) | (exact SN.after (Below.refl _ _).drew (by assumption)) | (exact SN.after (Below.refl _ _).drew HS.out) | (exact HS.out))).mono ?_; rintro e w8 ⟨rfl, hb8⟩; have h8 := SN.after hb8 (by first | assumption | (exact (‹Hid (SN b _ N g cap R gr capr K ps ms S i o) ∧ _›).1.out) | (exact SN.after (Below.refl _ _).drew (by assumption)) | (exact SN.after (Below.refl _ _).drew HS.out) | (exact HS.out)); clear hb8; obtain ⟨_, r0, r1, r2⟩ := SN.all h8) | (go_at_call 47; refine (HNodes.out _ (by first | assumption | (exact (‹Hid (SN b _ N g cap R gr capr K ps ms S i o) ∧ _›).1.out) | (exact SN.after (Below.refl _ _).drew (by assumption)) | (exact SN.after (Below.refl _ _).drew HS.out) | (exact HS.out))).mono ?_; rintro e w8 ⟨rfl, hb8⟩; have h8 := SN.after hb8 (by first | assumption | (exact (‹Hid (SN b _ N g cap R gr capr K ps ms S i o) ∧ _›).1.out) | (exact SN.after (Below.refl _ _).drew (by assumption)) | (exact SN.after (Below.refl _ _).drew HS.out) | (exact HS.out)); clear hb8; obtain ⟨_, r0, r1, r2⟩ := SN.all h8) | (go_at_call 48; refine (HNone.out _ _ (by omega) (by first | assumption | (exact (‹Hid (SN b _ N g cap R gr capr K ps ms S i o) ∧ _›).1.out) | (exact SN.after (Below.refl _ _).drew (by assumption)) | (exact SN.after (Below.refl _ _).drew HS.out) | (exact HS.out))).mono ?_; rintro e w8 ⟨rfl, hb8⟩; have h8 := SN.after hb8 (by first | assumption | (exact (‹Hid (SN b _ N g cap R gr capr K ps ms S i o) ∧ _›).1.out) | (exact SN.after (Below.refl _ _).drew (by assumption)) | (exact SN.after (Below.refl _ _).drew HS.out) | (exact HS.out)); clear hb8; obtain ⟨_, r0, r1, r2⟩ := SN.all h8) | (go_at_call 49; refine (HPacket.out _ _ (by first | assumption | (exact (‹Hid (SN b _ N g cap R gr capr K ps ms S i o) ∧ _›).1.out) | (exact SN.after (Below.refl _ _).drew (by assumption)) | (exact SN.after (Below.refl _ _).drew HS.out) | (exact HS.out))).mono ?_; rintro e w8 ⟨rfl, hb8⟩; have h8 := SN.after hb8 (by first | assumption | (exact (‹Hid (SN b _ N g cap R gr capr K ps ms S i o) ∧ _›).1.out) | (exact SN.after (Below.refl _ _).drew (by assumption)) | (exact SN.after (Below.refl _ _).drew HS.out) | (exact HS.out)); clear hb8; obtain ⟨_, r0, r1, r2⟩ := SN.all h8) | (go_at_call 45; refine (HFrom.out _ _ (by first | assumption | (exact (‹Hid (SN b _ N g cap R gr capr K ps ms S i o) ∧ _›).1.out) | (exact SN.after (Below.refl _ _).drew (by assumption)) | (exact SN.after (Below.refl _ _).drew HS.out) | (exact HS.out))).mono ?_; rintro e w8 ⟨rfl, hb8⟩; have h8 := SN.after hb8 (by first | assumption | (exact (‹Hid (SN b _ N g cap R gr capr K ps ms S i o) ∧ _›).1.out) | (exact SN.after (Below.refl _ _).drew (by assumption)) | (exact SN.after (Below.refl _ _).drew HS.out) | (exact HS.out)); clear hb8; obtain ⟨_, r0, r1, r2⟩ := SN.all h8) | fail)
  go_wp2_with fail
  refine wp_loop_rounds 3 ?_
  rw [rounds_succ]
  go_wp2_with (first | (go_at_call 49; refine (HPacket.out _ _ (by first | assumption | (exact (‹Hid (SN b _ N g cap R gr capr K ps ms S i o) ∧ _›).1.out) | (exact SN.after (Below.refl _ _).drew (by assumption)) | (exact SN.after (Below.refl _ _).drew HS.out) | (exact HS.out))).mono ?_; rintro e w8 ⟨rfl, hb8⟩; have h8 := SN.after hb8 (by first | assumption | (exact (‹Hid (SN b _ N g cap R gr capr K ps ms S i o) ∧ _›).1.out) | (exact SN.after (Below.refl _ _).drew (by assumption)) | (exact SN.after (Below.refl _ _).drew HS.out) | (exact HS.out)); clear hb8; obtain ⟨_, r0, r1, r2⟩ := SN.all h8) | (go_at_call 45; refine (HFrom.out _ _ (by first | assumption | (exact (‹Hid (SN b _ N g cap R gr capr K ps ms S i o) ∧ _›).1.out) | (exact SN.after (Below.refl _ _).drew (by assumption)) | (exact SN.after (Below.refl _ _).drew HS.out) | (exact HS.out))).mono ?_; rintro e w8 ⟨rfl, hb8⟩; have h8 := SN.after hb8 (by first | assumption | (exact (‹Hid (SN b _ N g cap R gr capr K ps ms S i o) ∧ _›).1.out) | (exact SN.after (Below.refl _ _).drew (by assumption)) | (exact SN.after (Below.refl _ _).drew HS.out) | (exact HS.out)); clear hb8; obtain ⟨_, r0, r1, r2⟩ := SN.all h8))
  rw [rounds_succ]
  go_wp2_with (first | (go_at_call 49; refine (HPacket.out _ _ (by first | assumption | (exact (‹Hid (SN b _ N g cap R gr capr K ps ms S i o) ∧ _›).1.out) | (exact SN.after (Below.refl _ _).drew (by assumption)) | (exact SN.after (Below.refl _ _).drew HS.out) | (exact HS.out))).mono ?_; rintro e w8 ⟨rfl, hb8⟩; have h8 := SN.after hb8 (by first | assumption | (exact (‹Hid (SN b _ N g cap R gr capr K ps ms S i o) ∧ _›).1.out) | (exact SN.after (Below.refl _ _).drew (by assumption)) | (exact SN.after (Below.refl _ _).drew HS.out) | (exact HS.out)); clear hb8; obtain ⟨_, r0, r1, r2⟩ := SN.all h8) | (go_at_call 45; refine (HFrom.out _ _ (by first | assumption | (exact (‹Hid (SN b _ N g cap R gr capr K ps ms S i o) ∧ _›).1.out) | (exact SN.after (Below.refl _ _).drew (by assumption)) | (exact SN.after (Below.refl _ _).drew HS.out) | (exact HS.out))).mono ?_; rintro e w8 ⟨rfl, hb8⟩; have h8 := SN.after hb8 (by first | assumption | (exact (‹Hid (SN b _ N g cap R gr capr K ps ms S i o) ∧ _›).1.out) | (exact SN.after (Below.refl _ _).drew (by assumption)) | (exact SN.after (Below.refl _ _).drew HS.out) | (exact HS.out)); clear hb8; obtain ⟨_, r0, r1, r2⟩ := SN.all h8))
  rw [rounds_succ]
  go_wp2_with fail
  have HS2 := Lib.hid h8
  clear r0 r1 r2
  go_loopg [10] K (fun gf u wx => ∃ j : Nat, u = .int .i64 (j : Int) ∧ j + gf = K ∧ SN b wx N g cap R gr capr K ps ms S i o)
  case atStart => exact ⟨0, rfl, by omega, HS2.out⟩
  case round =>
    obtain ⟨j, rfl, hj, hsn⟩ := hrel
    have HSN := Lib.hid hsn
    obtain ⟨_, r0, r1, r2⟩ := SN.all hsn
    clear hsn
    by_cases hlt : j < K
    · obtain ⟨g', rfl⟩ : ∃ g', gk = g' + 1 := ⟨gk - 1, by omega⟩
      have HJ : Hid (j < 16) := Lib.hid (by have := HKK.out; omega)
      have HLT := Lib.hid hlt
      have hj3 : j < 16 := HJ.out
      obtain ⟨m, hm⟩ : ∃ m, ms[j]? = some m := ⟨_, List.getElem?_eq_getElem (by rw [HSN.out.ra.len]; exact hlt)⟩
      have rm := HSN.out.ra.at_ j m hm
      have HM := Lib.hid hm
      have b1 : (0 : Int) ≤ (j : Int) := by omega
      have b2 : (j : Int) < (K : Int) := by omega
      have hne := run_neq_conf ((j : Int) + 1) (S : Int) i o
      clear hm
      go_wp2_with fail
      go_region_held3 (fun w' => Hid (SN b w' N g cap R gr capr K ps ms S i o) ∧ w'.cell? ⟨R, 0, none⟩ = some (.slice (some ⟨gr, 0, none⟩) K capr) ∧ w'.cell? ⟨gr, j, none⟩ = some (.pointer (some ⟨m, 0, none⟩))) (first | (exact ⟨Lib.hid (HSN.out.after (Below.refl _ _).drew), (HSN.out.after (Below.refl _ _).drew).ra.n0, (HSN.out.after (Below.refl _ _).drew).ra.at_ j m HM.out⟩) | (exact ⟨Lib.hid h8, h8.ra.n0, h8.ra.at_ j m HM.out⟩)) (first | (go_at_call 48; refine (HNode.out _ j HLT.out (HSN.out.after (Below.refl _ _).drew)).mono ?_; rintro e w8 ⟨⟨X, rfl, hx⟩, hb8⟩; have h8 := SN.after (nbl_step (Below.refl _ _).drew hb8) HSN.out; have HX8 := Lib.hid hx; clear hb8 hx; have HF8 := Lib.hid h8) | fail)
      have hsx : SX b w8 N g cap R gr capr K ps ms S i o j X m := ⟨HF8.out, HX8.out, by
        obtain ⟨tt, u, hr⟩ := HF8.out.ra.nd j m HM.out
        exact ⟨tt, u, hr⟩⟩
      have HSX := Lib.hid hsx
      clear hsx
      go_wp2_with (first | (go_at_call 20; refine (XLast.out _ j X m HJ.out HSX.out).mono ?_; rintro e w9 ⟨rfl, hb9⟩; replace HSX := Lib.hid (SX.after hb9 HSX.out); clear hb9) | (go_at_call 24; refine (XClosed.out _ j X m HJ.out HSX.out).mono ?_; rintro e w9 ⟨rfl, hb9⟩; replace HSX := Lib.hid (SX.after hb9 HSX.out); clear hb9) | (go_at_call 26; refine (XConfig.out _ j X m HJ.out HSX.out).mono ?_; rintro e w9 ⟨rfl, hb9⟩; replace HSX := Lib.hid (SX.after hb9 HSX.out); clear hb9) | (go_at_call 28; refine (XInbox.out _ j X m HJ.out HSX.out).mono ?_; rintro e w9 ⟨rfl, hb9⟩; replace HSX := Lib.hid (SX.after hb9 HSX.out); clear hb9) | (go_at_call 29; refine (XDeltas.out _ j X m HJ.out HSX.out).mono ?_; rintro e w9 ⟨rfl, hb9⟩; replace HSX := Lib.hid (SX.after hb9 HSX.out); clear hb9) | (go_at_call 32; refine (XCarts.out _ j X m HJ.out HSX.out).mono ?_; rintro e w9 ⟨rfl, hb9⟩; replace HSX := Lib.hid (SX.after hb9 HSX.out); clear hb9) | (go_at_call 53; refine (RLast.out _ j X m HSX.out).mono ?_; rintro e w9 ⟨rfl, hb9⟩; replace HSX := Lib.hid (SX.after hb9 HSX.out); clear hb9) | (go_at_call 54; refine (RClosed.out _ j X m HSX.out).mono ?_; rintro e w9 ⟨rfl, hb9⟩; replace HSX := Lib.hid (SX.after hb9 HSX.out); clear hb9) | (go_at_call 50; refine (RConfig.out _ j X m HSX.out).mono ?_; rintro e w9 ⟨rfl, hb9⟩; replace HSX := Lib.hid (SX.after hb9 HSX.out); clear hb9) | (go_at_call 52; refine (RInbox.out _ j X m HSX.out).mono ?_; rintro e w9 ⟨rfl, hb9⟩; replace HSX := Lib.hid (SX.after hb9 HSX.out); clear hb9) | (go_at_call 30; refine (RDeltas.out _ j X m HSX.out).mono ?_; rintro e w9 ⟨rfl, hb9⟩; replace HSX := Lib.hid (SX.after hb9 HSX.out); clear hb9) | (go_at_call 51; refine (RCarts.out _ j X m HSX.out).mono ?_; rintro e w9 ⟨rfl, hb9⟩; replace HSX := Lib.hid (SX.after hb9 HSX.out); clear hb9) | (go_at_call 27; refine (HSame.out _).mono ?_; rintro e w9 ⟨rfl, hb9⟩; replace HSX := Lib.hid (SX.after hb9 HSX.out); clear hb9))
      go_roundg g'
      case measure => omega
      case rel => exact ⟨j + 1, by first | rfl | go_num, by omega, HSX.out.sn⟩
    · have e : j = K := by omega
      subst e
      go_wp2_with fail
      go_ret
      exact ⟨rfl, HSN.out.bel⟩
end Go.Proofs.YthfleaogajbpfaaGreatDoor
